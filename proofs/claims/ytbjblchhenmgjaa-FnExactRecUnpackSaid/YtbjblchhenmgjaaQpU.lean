/-
  The readers' tree: the reference. Printed by gen/untree.py. The readers' tree: the program. Printed by gen/untree.py. What a reader of events has found: plain laws of the three parts.
-/
import Derived.Test.YtbjblchhenmgjaaQpN
import Derived.Deep.RegionHeld3
import Derived.Deep.RegionLaw
import Derived.Deep.CutRange
import Derived.Deep.DeepCutAuto
import Derived.Test.YtbjblchhenmgjaaQpO
set_option linter.unusedVariables false
set_option linter.unusedSimpArgs false
namespace Go.Proofs.Ytbjblchhenmgjaa
open Go.ChangeShapes Go.WideShapes Go.ChangeAt Go.RowKit

def TreeRdS (f : Nat) : Prop := ∀ (L l : List UInt8) (bad : Bool) (g deep : Nat) (w : World), deep + f = 7 → 1 ≤ deep → RdS w g L l bad →
  Calls Try.prog 76 #[.pointer (some ⟨g, 0, none⟩), .int .i64 (deep : Int)] w (TreeOut RdS g L bad (pTree false f l) w)
set_option maxRecDepth 100000 in
set_option maxHeartbeats 4000000 in
theorem treeRdS_of (f : Nat) (ih : ∀ f', f = f' + 1 → TreeRdS f') : TreeRdS f := by
  intro L l bad g deep w hdf hd1 h
  have hgw := h.lt
  have HB0 := hide (show Below w.heap.size w (w.alloc (.cells #[.int .i64 0, .int .i64 0, .string .empty, .slice none 0 0, .slice none 0 0] 26)) from (Below.refl _ _).alloc (Nat.le_refl _) _)
  have HZ0 := hide (Row.new w 26 [.int .i64 0, .int .i64 0, .string .empty, .slice none 0 0, .slice none 0 0])
  have HC := hide (oneS_any (h.below HB0.out))
  have HIH := hide ih
  have HSH := hide (fun (l : List UInt8) (bad : Bool) (W : World) (h : RdS W g L l bad) => shortS_any h)
  have HON := hide (fun (l : List UInt8) (bad : Bool) (W : World) (h : RdS W g L l bad) => oneS_any h)
  obtain ⟨ia, hia, ha0, ha1, ha2⟩ := info_parts info_string
  obtain ⟨ib, hib, hb0, hb1, hb2⟩ := info_parts info_Tree'
  have HIa := hide hia
  have HIb := hide hib
  clear h ih hia hib
  go_enter Try.func76, Try.ntmps76
  go_wp2_with fail
  refine HC.out.mono ?_
  rintro e w2 ⟨x, l1, bad1, rfl, hx0, hx1, h2, hg2, hok⟩
  obtain ⟨y, rfl⟩ : ∃ y : Nat, x = (y : Int) := ⟨x.toNat, by omega⟩
  go_upto_region 2 with fail
  generalize hw3 : w2.alloc _ = w3
  have hB3 : Below w2.heap.size w2 w3 := by rw [← hw3]; exact (Below.refl _ _).alloc (Nat.le_refl _) _
  have HG2 := hide (show w.grownBy w3 (some g) from only_low (only_trans (grownBy_below HB0.out (some g)) hg2) hB3 (Nat.le_trans HB0.out.size hg2.size))
  have HT3 := hide (show TreeAt w3 w2.heap.size (y : Int) (.slice none 0 0) [] [] (.slice none 0 0) [] [] [] from ⟨by rw [← hw3]; exact Row.new w2 _ _, OwS.nil _ _ _ _ _, OwS.nil _ _ _ _ _, Nat.lt_succ_self _, fun g h => (by cases h), fun g h => (by cases h), fun g h => (by cases h), fun g h => (by cases h)⟩)
  have HR3 := hide (h2.below hB3)
  have HZ3 := hide ((HZ0.out.grown hg2 (fun e => by injection e with e; omega)).below hB3 (Nat.lt_of_lt_of_le HZ0.out.lt hg2.size))
  have hbw : w.heap.size < w2.heap.size := Nat.lt_of_lt_of_le HZ0.out.lt hg2.size
  have HOK := hide hok
  have t0 := HT3.out.box.cell 0
  have lt3 := HT3.out.box.lt
  obtain ⟨hbc, hbf⟩ := HR3.out.bad
  have lg3 := HR3.out.lt
  clear hg2 h2 hok hB3 HC hw3
  by_cases hstop : bad1 = true ∨ 6 < deep
  · have HN : Hid (bad = true ∨ pTree false f l = none) := hide (by
      rcases hstop with hs | hs
      · exact (HOK.out.2 hs).imp id (fun e => by rw [pOne_none e, pTree_nil])
      · obtain rfl : f = 0 := by omega
        exact .inr rfl)
    have HRq := hide (HR3.out.setBad true)
    have HGq := hide (only_trans HG2.out (only_setCell (p := ⟨g, 2, none⟩) (grown_refl w3 (some g)) (.inl rfl) (.bool true)))
    have HTq := hide (HT3.out.far (only_setCell (p := ⟨g, 2, none⟩) (grown_refl w3 (some g)) (.inl rfl) (.bool true)) (by omega))
    have HZq0 := hide (HZ3.out.grown (only_setCell (p := ⟨g, 2, none⟩) (grown_refl w3 (some g)) (.inl rfl) (.bool true)) (fun e => by injection e with e; omega))
    have HZq := HZq0
    have z0 := HZq.out.cell 0
    have y0 := HZq.out.frozen 0
    have z1 := HZq.out.cell 1
    have y1 := HZq.out.frozen 1
    have z2 := HZq.out.cell 2
    have y2 := HZq.out.frozen 2
    have z3 := HZq.out.cell 3
    have y3 := HZq.out.frozen 3
    have z4 := HZq.out.cell 4
    have y4 := HZq.out.frozen 4
    have lz := HZq.out.lt
    have q0 := HTq.out.box.cell 0
    have q1 := HTq.out.box.cell 1
    have q2 := HTq.out.box.cell 2
    have q3 := HTq.out.box.cell 3
    have q4 := HTq.out.box.cell 4
    have lq := HTq.out.box.lt
    clear t0 lt3
    have hor : (bad1 = true) ∨ (bad1 = false ∧ (6 : Int) < (deep : Int)) := by
      rcases hb : bad1 with _ | _
      · rcases hstop with hs | hs
        · rw [hb] at hs; cases hs
        · exact .inr ⟨rfl, by omega⟩
      · exact .inl rfl
    clear hstop
    rcases hor with rfl | ⟨rfl, hdd⟩
    · go_wp2
      refine bodyPost_ret (ret_row rfl _ _ w.heap.size 26 [.int .i64 (y : Int), .int .i64 0, .string .empty, .slice none 0 0, .slice none 0 0] (HZq.out.setAll [.int .i64 (y : Int), .int .i64 0, .string .empty, .slice none 0 0, .slice none 0 0] rfl) _ rfl Try.underlying26 rfl (by kernel_rfl)) rfl ?_
      exact ⟨.mk (y : Int) 0 .empty [] [], _, [], l1, true, rfl, leaf_ow _ (wfi (by omega) (by omega)) (wfi (by omega) (by omega)) empty_le, New.nil _ _, HRq.out.low (fin_low HGq.out [.int .i64 (y : Int), .int .i64 0, .string .empty, .slice none 0 0, .slice none 0 0]) hgw, fin_grown HGq.out [.int .i64 (y : Int), .int .i64 0, .string .empty, .slice none 0 0, .slice none 0 0], fun hb => (by cases hb), fun _ => HN.out⟩
    · go_wp2
      refine bodyPost_ret (ret_row rfl _ _ w.heap.size 26 [.int .i64 (y : Int), .int .i64 0, .string .empty, .slice none 0 0, .slice none 0 0] (HZq.out.setAll [.int .i64 (y : Int), .int .i64 0, .string .empty, .slice none 0 0, .slice none 0 0] rfl) _ rfl Try.underlying26 rfl (by kernel_rfl)) rfl ?_
      exact ⟨.mk (y : Int) 0 .empty [] [], _, [], l1, true, rfl, leaf_ow _ (wfi (by omega) (by omega)) (wfi (by omega) (by omega)) empty_le, New.nil _ _, HRq.out.low (fin_low HGq.out [.int .i64 (y : Int), .int .i64 0, .string .empty, .slice none 0 0, .slice none 0 0]) hgw, fin_grown HGq.out [.int .i64 (y : Int), .int .i64 0, .string .empty, .slice none 0 0, .slice none 0 0], fun hb => (by cases hb), fun _ => HN.out⟩
  obtain rfl : bad1 = false := by
    rcases hb : bad1 with _ | _
    · rfl
    · exact absurd (.inl hb) hstop
  have hd6 : deep ≤ 6 := Nat.not_lt.1 (fun hd => hstop (.inr hd))
  clear hstop
  obtain ⟨f', rfl⟩ : ∃ f', f = f' + 1 := ⟨f - 1, by omega⟩
  have HI := hide (HIH.out f' rfl)
  obtain ⟨hb0f, hp1⟩ := HOK.out.1 rfl
  have HP := hide (pTree_one (strict := false) (f := f') hp1)
  clear hp1 HOK HIH
  subst hb0f
  have hdi : (deep : Int) ≤ 6 := by omega
  by_cases h1 : y = 1
  · subst h1
    have HP1 := hide (show pTree false (f' + 1) l = (pNum false l1).map (fun p => (.mk 1 p.1 .empty [] [], p.2)) from by rw [HP.out, if_pos rfl])
    clear HP
    have HNU := hide (numS_any HR3.out)
    go_wp2_with fail
    skip
    refine HNU.out.mono ?_
    rintro e w5 ⟨n, l5, b5, rfl, hn0, hn1, h5, hg5, hok5⟩
    have HR5 := hide h5
    have HG5 := hide (only_trans HG2.out hg5)
    have HT5 := hide (HT3.out.far hg5 (by omega))
    have HZ5 := hide (HZ3.out.grown hg5 (fun e => by injection e with e; omega))
    have HOK5 := hide hok5
    have x1f := HT5.out.box.frozen 1
    have HBX := hide (HT5.out.box.set 1 (.int .i64 n))
    have hBX : Below w2.heap.size w5 (w5.setCell ⟨w2.heap.size, 1, none⟩ (.int .i64 n)) := (Below.refl _ _).setCell (p := ⟨w2.heap.size, 1, none⟩) (Nat.le_refl _) _
    have HRx := hide (HR5.out.low hBX (by omega))
    have HGx := hide (only_low HG5.out hBX (by omega))
    have HZx := hide (HZ5.out.below hBX hbw)
    have HZq := HZx
    have z0 := HZq.out.cell 0
    have y0 := HZq.out.frozen 0
    have z1 := HZq.out.cell 1
    have y1 := HZq.out.frozen 1
    have z2 := HZq.out.cell 2
    have y2 := HZq.out.frozen 2
    have z3 := HZq.out.cell 3
    have y3 := HZq.out.frozen 3
    have z4 := HZq.out.cell 4
    have y4 := HZq.out.frozen 4
    have lz := HZq.out.lt
    have q0 := HBX.out.cell 0
    have q1 := HBX.out.cell 1
    have q2 := HBX.out.cell 2
    have q3 := HBX.out.cell 3
    have q4 := HBX.out.cell 4
    have p0 := HT5.out.box.cell 0
    have p1 := HT5.out.box.cell 1
    have p2 := HT5.out.box.cell 2
    have p3 := HT5.out.box.cell 3
    have p4 := HT5.out.box.cell 4
    have lq := HBX.out.lt
    have lq5 := HT5.out.box.lt
    clear h5 hg5 hok5 t0 lt3
    go_wp2
    refine bodyPost_ret (ret_row rfl _ _ w.heap.size 26 [.int .i64 1, .int .i64 n, .string .empty, .slice none 0 0, .slice none 0 0] (HZq.out.setAll [.int .i64 1, .int .i64 n, .string .empty, .slice none 0 0, .slice none 0 0] rfl) _ rfl Try.underlying26 rfl (by kernel_rfl)) rfl ?_
    exact ⟨.mk 1 n .empty [] [], _, [], l5, b5, rfl, leaf_ow _ (wfi (by omega) (by omega)) (wfi (by omega) (by omega)) empty_le, New.nil _ _, HRx.out.low (fin_low HGx.out [.int .i64 1, .int .i64 n, .string .empty, .slice none 0 0, .slice none 0 0]) hgw, fin_grown HGx.out [.int .i64 1, .int .i64 n, .string .empty, .slice none 0 0, .slice none 0 0], (by rw [HP1.out]; exact okr_map (fun q => Tree.mk 1 q .empty [] []) HOK5.out)⟩
  by_cases h2 : y = 2
  · subst h2
    have HP1 := hide (show pTree false (f' + 1) l = (pShort l1).map (fun p => (.mk 2 0 p.1 [] [], p.2)) from by rw [HP.out, if_neg h1, if_pos rfl])
    clear HP
    have HNU := hide (shortS_any HR3.out)
    go_wp2_with fail
    skip
    refine HNU.out.mono ?_
    rintro e w5 ⟨n, l5, b5, rfl, hn1, h5, hg5, hok5⟩
    have HR5 := hide h5
    have HG5 := hide (only_trans HG2.out hg5)
    have HT5 := hide (HT3.out.far hg5 (by omega))
    have HZ5 := hide (HZ3.out.grown hg5 (fun e => by injection e with e; omega))
    have HOK5 := hide hok5
    have x2f := HT5.out.box.frozen 2
    have HBX := hide (HT5.out.box.set 2 (.string n))
    have hBX : Below w2.heap.size w5 (w5.setCell ⟨w2.heap.size, 2, none⟩ (.string n)) := (Below.refl _ _).setCell (p := ⟨w2.heap.size, 2, none⟩) (Nat.le_refl _) _
    have HRx := hide (HR5.out.low hBX (by omega))
    have HGx := hide (only_low HG5.out hBX (by omega))
    have HZx := hide (HZ5.out.below hBX hbw)
    have HZq := HZx
    have z0 := HZq.out.cell 0
    have y0 := HZq.out.frozen 0
    have z1 := HZq.out.cell 1
    have y1 := HZq.out.frozen 1
    have z2 := HZq.out.cell 2
    have y2 := HZq.out.frozen 2
    have z3 := HZq.out.cell 3
    have y3 := HZq.out.frozen 3
    have z4 := HZq.out.cell 4
    have y4 := HZq.out.frozen 4
    have lz := HZq.out.lt
    have q0 := HBX.out.cell 0
    have q1 := HBX.out.cell 1
    have q2 := HBX.out.cell 2
    have q3 := HBX.out.cell 3
    have q4 := HBX.out.cell 4
    have p0 := HT5.out.box.cell 0
    have p1 := HT5.out.box.cell 1
    have p2 := HT5.out.box.cell 2
    have p3 := HT5.out.box.cell 3
    have p4 := HT5.out.box.cell 4
    have lq := HBX.out.lt
    have lq5 := HT5.out.box.lt
    clear h5 hg5 hok5 t0 lt3
    go_wp2
    refine bodyPost_ret (ret_row rfl _ _ w.heap.size 26 [.int .i64 2, .int .i64 0, .string n, .slice none 0 0, .slice none 0 0] (HZq.out.setAll [.int .i64 2, .int .i64 0, .string n, .slice none 0 0, .slice none 0 0] rfl) _ rfl Try.underlying26 rfl (by kernel_rfl)) rfl ?_
    exact ⟨.mk 2 0 n [] [], _, [], l5, b5, rfl, leaf_ow _ (wfi (by omega) (by omega)) (wfi (by omega) (by omega)) (by unfold maxLen; omega), New.nil _ _, HRx.out.low (fin_low HGx.out [.int .i64 2, .int .i64 0, .string n, .slice none 0 0, .slice none 0 0]) hgw, fin_grown HGx.out [.int .i64 2, .int .i64 0, .string n, .slice none 0 0, .slice none 0 0], (by rw [HP1.out]; exact okr_map (fun q => Tree.mk 2 0 q [] []) HOK5.out)⟩
  by_cases h3 : y = 3
  · subst h3
    have HP1 := hide (show pTree false (f' + 1) l = (pOne l1).map (fun p => (.mk 3 p.1 .empty [] [], p.2)) from by rw [HP.out, if_neg h1, if_neg h2, if_pos rfl])
    clear HP
    have HNU := hide (oneS_any HR3.out)
    go_wp2_with fail
    skip
    refine HNU.out.mono ?_
    rintro e w5 ⟨n, l5, b5, rfl, hn0, hn1, h5, hg5, hok5⟩
    have HR5 := hide h5
    have HG5 := hide (only_trans HG2.out hg5)
    have HT5 := hide (HT3.out.far hg5 (by omega))
    have HZ5 := hide (HZ3.out.grown hg5 (fun e => by injection e with e; omega))
    have HOK5 := hide hok5
    have x1f := HT5.out.box.frozen 1
    have HBX := hide (HT5.out.box.set 1 (.int .i64 n))
    have hBX : Below w2.heap.size w5 (w5.setCell ⟨w2.heap.size, 1, none⟩ (.int .i64 n)) := (Below.refl _ _).setCell (p := ⟨w2.heap.size, 1, none⟩) (Nat.le_refl _) _
    have HRx := hide (HR5.out.low hBX (by omega))
    have HGx := hide (only_low HG5.out hBX (by omega))
    have HZx := hide (HZ5.out.below hBX hbw)
    have HZq := HZx
    have z0 := HZq.out.cell 0
    have y0 := HZq.out.frozen 0
    have z1 := HZq.out.cell 1
    have y1 := HZq.out.frozen 1
    have z2 := HZq.out.cell 2
    have y2 := HZq.out.frozen 2
    have z3 := HZq.out.cell 3
    have y3 := HZq.out.frozen 3
    have z4 := HZq.out.cell 4
    have y4 := HZq.out.frozen 4
    have lz := HZq.out.lt
    have q0 := HBX.out.cell 0
    have q1 := HBX.out.cell 1
    have q2 := HBX.out.cell 2
    have q3 := HBX.out.cell 3
    have q4 := HBX.out.cell 4
    have p0 := HT5.out.box.cell 0
    have p1 := HT5.out.box.cell 1
    have p2 := HT5.out.box.cell 2
    have p3 := HT5.out.box.cell 3
    have p4 := HT5.out.box.cell 4
    have lq := HBX.out.lt
    have lq5 := HT5.out.box.lt
    clear h5 hg5 hok5 t0 lt3
    go_wp2
    refine bodyPost_ret (ret_row rfl _ _ w.heap.size 26 [.int .i64 3, .int .i64 n, .string .empty, .slice none 0 0, .slice none 0 0] (HZq.out.setAll [.int .i64 3, .int .i64 n, .string .empty, .slice none 0 0, .slice none 0 0] rfl) _ rfl Try.underlying26 rfl (by kernel_rfl)) rfl ?_
    exact ⟨.mk 3 n .empty [] [], _, [], l5, b5, rfl, leaf_ow _ (wfi (by omega) (by omega)) (wfi (by omega) (by omega)) empty_le, New.nil _ _, HRx.out.low (fin_low HGx.out [.int .i64 3, .int .i64 n, .string .empty, .slice none 0 0, .slice none 0 0]) hgw, fin_grown HGx.out [.int .i64 3, .int .i64 n, .string .empty, .slice none 0 0, .slice none 0 0], (by rw [HP1.out]; exact okr_map (fun q => Tree.mk 3 q .empty [] []) HOK5.out)⟩
  have HP4 := hide (show pTree false (f' + 1) l = pMany (pTree false f') y l1 from by rw [HP.out, if_neg h1, if_neg h2, if_neg h3])
  clear HP
  have hi1 : ((y : Int) == 1) = false := by simp; omega
  have hi2 : ((y : Int) == 2) = false := by simp; omega
  have hi3 : ((y : Int) == 3) = false := by simp; omega
  have hyw : (Lit.int .i64 (y : Int)).wf = true := wfi (by omega) (by omega)
  have HNU := hide (oneS_any HR3.out)
  clear h1 h2 h3
  go_wp2_with fail
  skip
  refine HNU.out.mono ?_
  rintro e w5 ⟨m, l5, b5, rfl, hm0, hm1, h5, hg5, hok5⟩
  obtain ⟨m, rfl⟩ : ∃ m' : Nat, m = (m' : Int) := ⟨m.toNat, by omega⟩
  have HK0 := hide (KidsAt.start (rd := pTree false f') (y := y) hok5)
  have HR5 := hide h5
  have HG5 := hide (only_trans HG2.out hg5)
  have HT5 := hide (HT3.out.far hg5 (by omega))
  have HZ5 := hide (HZ3.out.grown hg5 (fun e => by injection e with e; omega))
  obtain ⟨dd, hdd⟩ : ∃ dd : Nat, deep + 1 = dd := ⟨_, rfl⟩
  have hwd : IntKind.i64.wrap ((deep : Int) + 1) = (dd : Int) := by rw [wrapI _ (by omega) (by omega)]; omega
  have HIC := hide (fun (l : List UInt8) (bad : Bool) (W : World) (h : RdS W g L l bad) => HI.out L l bad g dd W (by omega) (by omega) h)
  clear h5 hg5 hok5 HNU lg3 t0 hbc hbf lt3 hdd
  go_wp2
  go_loopw [6] (fun iv wr => ∃ (n : Nat) (ns : List ByteArray) (ks : List Tree) (lx : List UInt8) (bx : Bool) (B1 : Option Addr) (n1 d1 : Nat) (us1 : List Value) (B2 : Option Addr) (n2 d2 : Nat) (us2 : List Value) (fi2 : List Nat), iv = .int .i64 (n : Int) ∧ TreeAt wr w2.heap.size (y : Int) (.slice B1 n1 d1) ns us1 (.slice B2 n2 d2) ks us2 fi2 ∧ RdS wr g L lx bx ∧ ns.length + n ≤ 255 ∧ ks.length + n ≤ 255 ∧ KidsAt (pTree false f') y l1 bx n ns ks lx ∧ w.grownBy wr (some g) ∧ Row wr w.heap.size 26 [.int .i64 0, .int .i64 0, .string .empty, .slice none 0 0, .slice none 0 0]) (fun iv _ => (intOf iv).toNat)
  case atStart => exact ⟨m, [], [], l5, b5, none, 0, 0, [], none, 0, 0, [], [], rfl, HT5.out, HR5.out, by simp; omega, by simp; omega, HK0.out, HG5.out, HZ5.out⟩
  case round =>
    obtain ⟨n, ns, ks, lx, bx, B1, n1, d1, us1, B2, n2, d2, us2, fi2, rfl, hT, hR, hln, hlk, hK, hG, hZ⟩ := hrel
    have HTr := hide hT
    have HRr := hide hR
    have HK := hide hK
    have HG := hide hG
    have HZ := hide hZ
    have q0 : wr.cell? ⟨w2.heap.size, 0, none⟩ = some (.int .i64 (y : Int)) := hT.box.cell 0
    have lq := hT.box.lt
    obtain ⟨hbc, hbf⟩ := hR.bad
    have lgr := hR.lt
    clear hT hR hK hG hZ HR5 HG5 HT5 HZ5 HK0
    rcases n with _ | n
    · have hzz : bx = false → 0 = 0 := fun _ => rfl
      have HZq := HZ
      have z0 := HZq.out.cell 0
      have y0 := HZq.out.frozen 0
      have z1 := HZq.out.cell 1
      have y1 := HZq.out.frozen 1
      have z2 := HZq.out.cell 2
      have y2 := HZq.out.frozen 2
      have z3 := HZq.out.cell 3
      have y3 := HZq.out.frozen 3
      have z4 := HZq.out.cell 4
      have y4 := HZq.out.frozen 4
      have lz := HZq.out.lt
      have q1 := HTr.out.box.cell 1
      have q2 := HTr.out.box.cell 2
      have q3 := HTr.out.box.cell 3
      have q4 := HTr.out.box.cell 4
      go_wp2
      obtain ⟨fq, ho, hnw⟩ := kids_fin HTr.out hyw HG.out hbw (treeMk (y : Int) (.slice B1 n1 d1) (.slice B2 n2 d2))
      refine bodyPost_ret (ret_row rfl _ _ w.heap.size 26 (treeMk (y : Int) (.slice B1 n1 d1) (.slice B2 n2 d2)) (HZq.out.setAll (treeMk (y : Int) (.slice B1 n1 d1) (.slice B2 n2 d2)) rfl) _ rfl Try.underlying26 rfl (by kernel_rfl)) rfl ?_
      exact ⟨.mk (y : Int) 0 .empty ns ks, _, fq, lx, _, rfl, ho, hnw, HRr.out.low (fin_low HG.out (treeMk (y : Int) (.slice B1 n1 d1) (.slice B2 n2 d2))) hgw, fin_grown HG.out (treeMk (y : Int) (.slice B1 n1 d1) (.slice B2 n2 d2)), by rw [HP4.out]; exact HK.out.done (fun _ => rfl)⟩
    have hn0 : (0 : Int) < ((n + 1 : Nat) : Int) := by omega
    rcases bx with _ | _
    rotate_left
    · skip
      have HZq := HZ
      have z0 := HZq.out.cell 0
      have y0 := HZq.out.frozen 0
      have z1 := HZq.out.cell 1
      have y1 := HZq.out.frozen 1
      have z2 := HZq.out.cell 2
      have y2 := HZq.out.frozen 2
      have z3 := HZq.out.cell 3
      have y3 := HZq.out.frozen 3
      have z4 := HZq.out.cell 4
      have y4 := HZq.out.frozen 4
      have lz := HZq.out.lt
      have q1 := HTr.out.box.cell 1
      have q2 := HTr.out.box.cell 2
      have q3 := HTr.out.box.cell 3
      have q4 := HTr.out.box.cell 4
      go_wp2
      obtain ⟨fq, ho, hnw⟩ := kids_fin HTr.out hyw HG.out hbw (treeMk (y : Int) (.slice B1 n1 d1) (.slice B2 n2 d2))
      refine bodyPost_ret (ret_row rfl _ _ w.heap.size 26 (treeMk (y : Int) (.slice B1 n1 d1) (.slice B2 n2 d2)) (HZq.out.setAll (treeMk (y : Int) (.slice B1 n1 d1) (.slice B2 n2 d2)) rfl) _ rfl Try.underlying26 rfl (by kernel_rfl)) rfl ?_
      exact ⟨.mk (y : Int) 0 .empty ns ks, _, fq, lx, _, rfl, ho, hnw, HRr.out.low (fin_low HG.out (treeMk (y : Int) (.slice B1 n1 d1) (.slice B2 n2 d2))) hgw, fin_grown HG.out (treeMk (y : Int) (.slice B1 n1 d1) (.slice B2 n2 d2)), by rw [HP4.out]; exact HK.out.done (fun h => by cases h)⟩
    by_cases hy5 : y = 5
    · have HY := hide hy5
      have hi5 : ((y : Int) == 5) = true := by simp; omega
      clear hy5
      have t3 : wr.cell? ⟨w2.heap.size, 3, none⟩ = some (.slice B1 n1 d1) := HTr.out.box.cell 3
      have hszA : w2.heap.size + 1 ≤ wr.heap.size := HTr.out.box.lt
      go_upto_region 19 with fail
      go_cut [] from 44 to 73 (fun wx => ∃ (s : ByteArray) (l3 : List UInt8) (b3 : Bool) (C1 : Option Addr) (m1 c1 : Nat) (us1' : List Value), TreeAt wx w2.heap.size (y : Int) (.slice C1 m1 c1) (ns ++ [s]) us1' (.slice B2 n2 d2) ks us2 fi2 ∧ RdS wx g L l3 b3 ∧ Okr false b3 (pShort lx) s l3 ∧ w.grownBy wx (some g) ∧ Row wx w.heap.size 26 [.int .i64 0, .int .i64 0, .string .empty, .slice none 0 0, .slice none 0 0])
      case first =>
        go_region_law (first | (refine step_app (by rfl) _ _ 23 (by rfl) ia _ 16 Try.underlying23 HIa.out ha0 ha1 ha2 rfl (by decide) strC_len (by rfl) HT7.out.one [s] (HDS.out _) (by exact New.nil _ _) (fun g _ hg => by cases hg) _ 1 1 (by rfl) rfl (SrcAt.new w6 _ _ _ _) (by omega) (by decide) (by rw [World.size_alloc]; omega) ?_; intro A' n' c' w8 hn8 hown8 hgb8; have HG8 := hide hgb8; have HN8 := hide hown8; have r8 := HT7.out.row1 hgb8; have q8 : w8.cell? ⟨w2.heap.size, 3, none⟩ = some (.slice B1 n1 d1) := r8.cell 3; have f8 : w8.frozen? ⟨w2.heap.size, 3, none⟩ = false := r8.frozen 3; clear hown8 hgb8 r8 hn8) | (go_simp; go_at_call 74; refine (HSH.out lx false _ (HRr.out.drewN 1)).mono ?_; rintro e w6 ⟨s, l6, b6, rfl, hs6, hr6, hg6, hok6⟩; have HR6 := hide hr6; have HG6 := hide (only_trans (only_drewN HG.out 1) hg6); have HOK6 := hide hok6; have HZ6 := hide ((HZ.out.drewN 1).grown hg6 (fun e => by injection e with e; omega)); have hz6 : wr.heap.size ≤ w6.heap.size := hg6.size; have HT6 := hide ((HTr.out.drewN 1).far hg6 (by omega)); have t3c : w6.cell? ⟨w2.heap.size, 3, none⟩ = some (.slice B1 n1 d1) := HT6.out.box.cell 3; have lt6 := HT6.out.box.lt; have HT7 := hide (HT6.out.alloc (.cells #[.string s] 9)); have HDS := hide (fun W => show OwC W ([s].flatMap strC) [.string s] [] from ⟨[], [], ⟨rfl, show s.size ≤ maxLen by (unfold maxLen; omega), rfl⟩, rfl, rfl⟩); clear hr6 hg6 hok6))
        all_goals
          have hfr : ∀ u, Below w.heap.size w6 (w8.setCell ⟨w2.heap.size, 3, none⟩ u) := fun u => ((Below.refl w.heap.size w6).alloc (by omega) _).trans (HT7.out.frame1 HG8.out (by rw [World.size_alloc]; omega) 3 u (by omega))
          go_wp2_with fail
          go_meet
          exact ⟨s, l6, b6, A', n', c', us1 ++ [.string s], HT7.out.put1 HG8.out HN8.out 3 rfl (fun g hg => by cases hg), HR6.out.low (hfr _) hgw, HOK6.out, only_low HG6.out (hfr _) (Nat.le_refl _), Row.far (p := ⟨w2.heap.size, 3, none⟩) (HG8.out.row (HZ6.out.alloc _) (HT7.out.one.low (by omega))) (Nat.ne_of_lt hbw) _⟩
      case rest =>
        clear q0 lq hbc hbf lgr t3 hszA
        obtain ⟨s, l3, b3, C1, m1, c1, us1', hT, hR, hok, hG, hZ⟩ := hcut
        have HTc := hide hT
        have HRc := hide hR
        have HOKc := hide hok
        have HGc := hide hG
        have HZc := hide hZ
        have lq := hT.box.lt
        have lgr := hR.lt
        clear hT hR hok hG hZ
        have hszA : w2.heap.size + 1 ≤ wc.heap.size := HTc.out.box.lt
        have t4 : wc.cell? ⟨w2.heap.size, 4, none⟩ = some (.slice B2 n2 d2) := HTc.out.box.cell 4
        go_wp2
        go_region_law (first | (refine step_app (by rfl) _ _ 24 (by rfl) ib _ 80 Try.underlying24 HIb.out hb0 hb1 hb2 rfl (by decide) Tree.cells_len (by rfl) HT7.out.two [t] (by rw [List.flatMap_singleton]; exact HO7.out) (New.app HT7.out.two.new (HN7.out.mono (Nat.le_refl _)) (fun g hg => HTc.out.two.new.lt g hg) (by exact hszA)) (fun g e hm => by have k1 := HTc.out.two.lt g e; have k2 := (HN6.out.fr g hm).1; exact absurd k1 (Nat.not_lt.2 k2)) _ 1 1 (by rfl) rfl (SrcAt.new w6 _ _ _ _) (by omega) (by decide) (by rw [World.size_alloc]; omega) ?_; intro A' n' c' w8 hn8 hown8 hgb8; have HG8 := hide hgb8; have HN8 := hide hown8; have r8 := HT7.out.row2 hgb8; have q8 : w8.cell? ⟨w2.heap.size, 4, none⟩ = some (.slice B2 n2 d2) := r8.cell 4; have f8 : w8.frozen? ⟨w2.heap.size, 4, none⟩ = false := r8.frozen 4; have HNN8 := hide hn8; clear hown8 hgb8 r8 hn8) | (go_simp; go_at_call 76; refine (HIC.out l3 b3 _ (HRc.out.drewN 1)).mono ?_; rintro e w6 ⟨t, us6, fq6, l6, b6, rfl, ho6, hn6, hr6, hg6, hok6⟩; have HO6 := hide ho6; have HN6 := hide hn6; have HR6 := hide hr6; have HG6 := hide (only_trans (only_drewN HGc.out 1) hg6); have HOK6 := hide hok6; have HZ6 := hide ((HZc.out.drewN 1).grown hg6 (fun e => by injection e with e; omega)); have hs6 : wc.heap.size ≤ w6.heap.size := hg6.size; obtain ⟨E1, e1, E2, e2, g1, g2, rfl, x0, x1, x2, x3, x4, efq⟩ := ho6.oTree; have HT6 := hide ((HTc.out.drewN 1).far hg6 (by omega)); have t4c : w6.cell? ⟨w2.heap.size, 4, none⟩ = some (.slice B2 n2 d2) := HT6.out.box.cell 4; have lt6 := HT6.out.box.lt; have HT7 := hide (HT6.out.alloc (.cells #[.int .i64 t.sort, .int .i64 t.num, .string t.text, .slice E1 t.names.length e1, .slice E2 t.kids.length e2] 26)); have HO7 := hide (HO6.out.alloc HN6.out.lt (.cells #[.int .i64 t.sort, .int .i64 t.num, .string t.text, .slice E1 t.names.length e1, .slice E2 t.kids.length e2] 26)); have HN7 := hide (HN6.out.alloc (.cells #[.int .i64 t.sort, .int .i64 t.num, .string t.text, .slice E1 t.names.length e1, .slice E2 t.kids.length e2] 26)); clear ho6 hn6 hr6 hg6 hok6 x3 x4 efq))
        all_goals
          have hfr : ∀ u, Below w.heap.size w6 (w8.setCell ⟨w2.heap.size, 4, none⟩ u) := fun u => ((Below.refl w.heap.size w6).alloc (by omega) _).trans (HT7.out.frame2 HG8.out (by rw [World.size_alloc]; omega) 4 u (by omega))
          have HF := hide (fun W (hW : W = w8.setCell ⟨w2.heap.size, 4, none⟩ (.slice A' n' c')) => show TreeAt W w2.heap.size (y : Int) (.slice C1 m1 c1) (ns ++ [s]) us1' (.slice A' n' c') (ks ++ [t]) (us2 ++ [.int .i64 t.sort, .int .i64 t.num, .string t.text, .slice E1 t.names.length e1, .slice E2 t.kids.length e2]) (fi2 ++ fq6) ∧ RdS W g L l6 b6 ∧ w.grownBy W (some g) ∧ Row W w.heap.size 26 [.int .i64 0, .int .i64 0, .string .empty, .slice none 0 0, .slice none 0 0] from by
            subst hW
            refine ⟨HT7.out.put2 HG8.out HN8.out 4 rfl (fun g hg => ?_), HR6.out.low (hfr _) hgw, only_low HG6.out (hfr _) (Nat.le_refl _), ?_⟩
            · rcases List.mem_append.1 hg with hg | hg
              · exact .inl hg
              · exact .inr ⟨fun e => absurd (HTc.out.one.lt g e) (Nat.not_lt.2 (HN6.out.fr g hg).1), fun h => by cases h⟩
            · exact Row.far (p := ⟨w2.heap.size, 4, none⟩) (HG8.out.row (HZ6.out.alloc _) (HT7.out.two.low (by omega))) (Nat.ne_of_lt hbw) _)
          have hKn := hide (HK.out.form HY.out HOKc.out HOK6.out)
          clear hfr
          go_wp2
          go_roundw
          case rel => exact ⟨n, _, _, _, _, _, _, _, _, A', n', c', _, _, by go_num, (HF.out _ rfl).1, (HF.out _ rfl).2.1, by (try simp only [List.length_append, List.length_cons, List.length_nil]); omega, by (try simp only [List.length_append, List.length_cons, List.length_nil]); omega, hKn.out, (HF.out _ rfl).2.2⟩
          case measure => simp [intOf] <;> omega
    · have hi5 : ((y : Int) == 5) = false := by simp; omega
      have hszA : w2.heap.size + 1 ≤ wr.heap.size := HTr.out.box.lt
      have t4 : wr.cell? ⟨w2.heap.size, 4, none⟩ = some (.slice B2 n2 d2) := HTr.out.box.cell 4
      go_wp2
      go_region_law (first | (refine step_app (by rfl) _ _ 24 (by rfl) ib _ 80 Try.underlying24 HIb.out hb0 hb1 hb2 rfl (by decide) Tree.cells_len (by rfl) HT7.out.two [t] (by rw [List.flatMap_singleton]; exact HO7.out) (New.app HT7.out.two.new (HN7.out.mono (Nat.le_refl _)) (fun g hg => HTr.out.two.new.lt g hg) (by exact hszA)) (fun g e hm => by have k1 := HTr.out.two.lt g e; have k2 := (HN6.out.fr g hm).1; exact absurd k1 (Nat.not_lt.2 k2)) _ 1 1 (by rfl) rfl (SrcAt.new w6 _ _ _ _) (by omega) (by decide) (by rw [World.size_alloc]; omega) ?_; intro A' n' c' w8 hn8 hown8 hgb8; have HG8 := hide hgb8; have HN8 := hide hown8; have r8 := HT7.out.row2 hgb8; have q8 : w8.cell? ⟨w2.heap.size, 4, none⟩ = some (.slice B2 n2 d2) := r8.cell 4; have f8 : w8.frozen? ⟨w2.heap.size, 4, none⟩ = false := r8.frozen 4; have HNN8 := hide hn8; clear hown8 hgb8 r8 hn8) | (go_simp; go_at_call 76; refine (HIC.out lx false _ (HRr.out.drewN 1)).mono ?_; rintro e w6 ⟨t, us6, fq6, l6, b6, rfl, ho6, hn6, hr6, hg6, hok6⟩; have HO6 := hide ho6; have HN6 := hide hn6; have HR6 := hide hr6; have HG6 := hide (only_trans (only_drewN HG.out 1) hg6); have HOK6 := hide hok6; have HZ6 := hide ((HZ.out.drewN 1).grown hg6 (fun e => by injection e with e; omega)); have hs6 : wr.heap.size ≤ w6.heap.size := hg6.size; obtain ⟨E1, e1, E2, e2, g1, g2, rfl, x0, x1, x2, x3, x4, efq⟩ := ho6.oTree; have HT6 := hide ((HTr.out.drewN 1).far hg6 (by omega)); have t4c : w6.cell? ⟨w2.heap.size, 4, none⟩ = some (.slice B2 n2 d2) := HT6.out.box.cell 4; have lt6 := HT6.out.box.lt; have HT7 := hide (HT6.out.alloc (.cells #[.int .i64 t.sort, .int .i64 t.num, .string t.text, .slice E1 t.names.length e1, .slice E2 t.kids.length e2] 26)); have HO7 := hide (HO6.out.alloc HN6.out.lt (.cells #[.int .i64 t.sort, .int .i64 t.num, .string t.text, .slice E1 t.names.length e1, .slice E2 t.kids.length e2] 26)); have HN7 := hide (HN6.out.alloc (.cells #[.int .i64 t.sort, .int .i64 t.num, .string t.text, .slice E1 t.names.length e1, .slice E2 t.kids.length e2] 26)); clear ho6 hn6 hr6 hg6 hok6 x3 x4 efq))
      all_goals
        have hfr : ∀ u, Below w.heap.size w6 (w8.setCell ⟨w2.heap.size, 4, none⟩ u) := fun u => ((Below.refl w.heap.size w6).alloc (by omega) _).trans (HT7.out.frame2 HG8.out (by rw [World.size_alloc]; omega) 4 u (by omega))
        have HF := hide (fun W (hW : W = w8.setCell ⟨w2.heap.size, 4, none⟩ (.slice A' n' c')) => show TreeAt W w2.heap.size (y : Int) (.slice B1 n1 d1) ns us1 (.slice A' n' c') (ks ++ [t]) (us2 ++ [.int .i64 t.sort, .int .i64 t.num, .string t.text, .slice E1 t.names.length e1, .slice E2 t.kids.length e2]) (fi2 ++ fq6) ∧ RdS W g L l6 b6 ∧ w.grownBy W (some g) ∧ Row W w.heap.size 26 [.int .i64 0, .int .i64 0, .string .empty, .slice none 0 0, .slice none 0 0] from by
          subst hW
          refine ⟨HT7.out.put2 HG8.out HN8.out 4 rfl (fun g hg => ?_), HR6.out.low (hfr _) hgw, only_low HG6.out (hfr _) (Nat.le_refl _), ?_⟩
          · rcases List.mem_append.1 hg with hg | hg
            · exact .inl hg
            · exact .inr ⟨fun e => absurd (HTr.out.one.lt g e) (Nat.not_lt.2 (HN6.out.fr g hg).1), fun h => by cases h⟩
          · exact Row.far (p := ⟨w2.heap.size, 4, none⟩) (HG8.out.row (HZ6.out.alloc _) (HT7.out.two.low (by omega))) (Nat.ne_of_lt hbw) _)
        have hKn := hide (HK.out.bare hy5 HOK6.out)
        clear hfr
        go_wp2
        go_roundw
        case rel => exact ⟨n, _, _, _, _, _, _, _, _, A', n', c', _, _, by go_num, (HF.out _ rfl).1, (HF.out _ rfl).2.1, by (try simp only [List.length_append, List.length_cons, List.length_nil]); omega, by (try simp only [List.length_append, List.length_cons, List.length_nil]); omega, hKn.out, (HF.out _ rfl).2.2⟩
        case measure => simp [intOf] <;> omega
theorem treeRdS_any : ∀ f, TreeRdS f
  | 0 => treeRdS_of 0 (fun f' e => by cases e)
  | f + 1 => treeRdS_of (f + 1) (fun f' e => by injection e with e; subst e; exact treeRdS_any f)
end Go.Proofs.Ytbjblchhenmgjaa
namespace Go.Proofs.Ytbjblchhenmgjaa
open Go.ChangeShapes Go.WideShapes Go.ChangeAt Go.RowKit

def TreeRdI (f : Nat) : Prop := ∀ (L l : List UInt8) (bad : Bool) (g deep : Nat) (w : World), deep + f = 7 → 1 ≤ deep → RdI w g L l bad →
  Calls Try.prog 82 #[.pointer (some ⟨g, 0, none⟩), .int .i64 (deep : Int)] w (TreeOut RdI g L bad (pTree true f l) w)
set_option maxRecDepth 100000 in
set_option maxHeartbeats 4000000 in
theorem treeRdI_of (f : Nat) (ih : ∀ f', f = f' + 1 → TreeRdI f') : TreeRdI f := by
  intro L l bad g deep w hdf hd1 h
  have hgw := h.lt
  have HB0 := hide (show Below w.heap.size w (w.alloc (.cells #[.int .i64 0, .int .i64 0, .string .empty, .slice none 0 0, .slice none 0 0] 26)) from (Below.refl _ _).alloc (Nat.le_refl _) _)
  have HZ0 := hide (Row.new w 26 [.int .i64 0, .int .i64 0, .string .empty, .slice none 0 0, .slice none 0 0])
  have HC := hide (numI_any (h.below HB0.out))
  have HIH := hide ih
  have HSH := hide (fun (l : List UInt8) (bad : Bool) (W : World) (h : RdI W g L l bad) => textI_any h)
  have HON := hide (fun (l : List UInt8) (bad : Bool) (W : World) (h : RdI W g L l bad) => numI_any h)
  obtain ⟨ia, hia, ha0, ha1, ha2⟩ := info_parts info_string
  obtain ⟨ib, hib, hb0, hb1, hb2⟩ := info_parts info_Tree'
  have HIa := hide hia
  have HIb := hide hib
  clear h ih hia hib
  go_enter Try.func82, Try.ntmps82
  go_wp2_with fail
  refine HC.out.mono ?_
  rintro e w2 ⟨x, l1, bad1, rfl, hx0, hx1, h2, hg2, hok⟩
  obtain ⟨y, rfl⟩ : ∃ y : Nat, x = (y : Int) := ⟨x.toNat, by omega⟩
  go_upto_region 2 with fail
  generalize hw3 : w2.alloc _ = w3
  have hB3 : Below w2.heap.size w2 w3 := by rw [← hw3]; exact (Below.refl _ _).alloc (Nat.le_refl _) _
  have HG2 := hide (show w.grownBy w3 (some g) from only_low (only_trans (grownBy_below HB0.out (some g)) hg2) hB3 (Nat.le_trans HB0.out.size hg2.size))
  have HT3 := hide (show TreeAt w3 w2.heap.size (y : Int) (.slice none 0 0) [] [] (.slice none 0 0) [] [] [] from ⟨by rw [← hw3]; exact Row.new w2 _ _, OwS.nil _ _ _ _ _, OwS.nil _ _ _ _ _, Nat.lt_succ_self _, fun g h => (by cases h), fun g h => (by cases h), fun g h => (by cases h), fun g h => (by cases h)⟩)
  have HR3 := hide (h2.below hB3)
  have HZ3 := hide ((HZ0.out.grown hg2 (fun e => by injection e with e; omega)).below hB3 (Nat.lt_of_lt_of_le HZ0.out.lt hg2.size))
  have hbw : w.heap.size < w2.heap.size := Nat.lt_of_lt_of_le HZ0.out.lt hg2.size
  have HOK := hide hok
  have t0 := HT3.out.box.cell 0
  have lt3 := HT3.out.box.lt
  obtain ⟨hbc, hbf⟩ := HR3.out.bad
  have lg3 := HR3.out.lt
  clear hg2 h2 hok hB3 HC hw3
  by_cases hstop : bad1 = true ∨ 6 < deep
  · have HN : Hid (bad = true ∨ pTree true f l = none) := hide (by
      rcases hstop with hs | hs
      · exact (HOK.out.2 hs).imp id (fun e => by rw [pOne_none e, pTree_nil])
      · obtain rfl : f = 0 := by omega
        exact .inr rfl)
    have HRq := hide (HR3.out.setBad true)
    have HGq := hide (only_trans HG2.out (only_setCell (p := ⟨g, 1, none⟩) (grown_refl w3 (some g)) (.inl rfl) (.bool true)))
    have HTq := hide (HT3.out.far (only_setCell (p := ⟨g, 1, none⟩) (grown_refl w3 (some g)) (.inl rfl) (.bool true)) (by omega))
    have HZq0 := hide (HZ3.out.grown (only_setCell (p := ⟨g, 1, none⟩) (grown_refl w3 (some g)) (.inl rfl) (.bool true)) (fun e => by injection e with e; omega))
    have HZq := HZq0
    have z0 := HZq.out.cell 0
    have y0 := HZq.out.frozen 0
    have z1 := HZq.out.cell 1
    have y1 := HZq.out.frozen 1
    have z2 := HZq.out.cell 2
    have y2 := HZq.out.frozen 2
    have z3 := HZq.out.cell 3
    have y3 := HZq.out.frozen 3
    have z4 := HZq.out.cell 4
    have y4 := HZq.out.frozen 4
    have lz := HZq.out.lt
    have q0 := HTq.out.box.cell 0
    have q1 := HTq.out.box.cell 1
    have q2 := HTq.out.box.cell 2
    have q3 := HTq.out.box.cell 3
    have q4 := HTq.out.box.cell 4
    have lq := HTq.out.box.lt
    clear t0 lt3
    have hor : (bad1 = true) ∨ (bad1 = false ∧ (6 : Int) < (deep : Int)) := by
      rcases hb : bad1 with _ | _
      · rcases hstop with hs | hs
        · rw [hb] at hs; cases hs
        · exact .inr ⟨rfl, by omega⟩
      · exact .inl rfl
    clear hstop
    rcases hor with rfl | ⟨rfl, hdd⟩
    · go_wp2
      refine bodyPost_ret (ret_row rfl _ _ w.heap.size 26 [.int .i64 (y : Int), .int .i64 0, .string .empty, .slice none 0 0, .slice none 0 0] (HZq.out.setAll [.int .i64 (y : Int), .int .i64 0, .string .empty, .slice none 0 0, .slice none 0 0] rfl) _ rfl Try.underlying26 rfl (by kernel_rfl)) rfl ?_
      exact ⟨.mk (y : Int) 0 .empty [] [], _, [], l1, true, rfl, leaf_ow _ (wfi (by omega) (by omega)) (wfi (by omega) (by omega)) empty_le, New.nil _ _, HRq.out.low (fin_low HGq.out [.int .i64 (y : Int), .int .i64 0, .string .empty, .slice none 0 0, .slice none 0 0]) hgw, fin_grown HGq.out [.int .i64 (y : Int), .int .i64 0, .string .empty, .slice none 0 0, .slice none 0 0], fun hb => (by cases hb), fun _ => HN.out⟩
    · go_wp2
      refine bodyPost_ret (ret_row rfl _ _ w.heap.size 26 [.int .i64 (y : Int), .int .i64 0, .string .empty, .slice none 0 0, .slice none 0 0] (HZq.out.setAll [.int .i64 (y : Int), .int .i64 0, .string .empty, .slice none 0 0, .slice none 0 0] rfl) _ rfl Try.underlying26 rfl (by kernel_rfl)) rfl ?_
      exact ⟨.mk (y : Int) 0 .empty [] [], _, [], l1, true, rfl, leaf_ow _ (wfi (by omega) (by omega)) (wfi (by omega) (by omega)) empty_le, New.nil _ _, HRq.out.low (fin_low HGq.out [.int .i64 (y : Int), .int .i64 0, .string .empty, .slice none 0 0, .slice none 0 0]) hgw, fin_grown HGq.out [.int .i64 (y : Int), .int .i64 0, .string .empty, .slice none 0 0, .slice none 0 0], fun hb => (by cases hb), fun _ => HN.out⟩
  obtain rfl : bad1 = false := by
    rcases hb : bad1 with _ | _
    · rfl
    · exact absurd (.inl hb) hstop
  have hd6 : deep ≤ 6 := Nat.not_lt.1 (fun hd => hstop (.inr hd))
  clear hstop
  obtain ⟨f', rfl⟩ : ∃ f', f = f' + 1 := ⟨f - 1, by omega⟩
  have HI := hide (HIH.out f' rfl)
  obtain ⟨hb0f, hp1⟩ := HOK.out.1 rfl
  have HP := hide (pTree_one (strict := true) (f := f') hp1)
  clear hp1 HOK HIH
  subst hb0f
  have hdi : (deep : Int) ≤ 6 := by omega
  have HR4 := hide (HR3.out.setBad false)
  have HG4 := hide (only_trans HG2.out (only_setCell (p := ⟨g, 1, none⟩) (grown_refl w3 (some g)) (.inl rfl) (.bool false)))
  have HT4 := hide (HT3.out.far (only_setCell (p := ⟨g, 1, none⟩) (grown_refl w3 (some g)) (.inl rfl) (.bool false)) (by omega))
  have HZ4 := hide (HZ3.out.grown (only_setCell (p := ⟨g, 1, none⟩) (grown_refl w3 (some g)) (.inl rfl) (.bool false)) (fun e => by injection e with e; omega))
  obtain ⟨w4, hw4⟩ : ∃ w4, w3.setCell ⟨g, 1, none⟩ (.bool false) = w4 := ⟨_, rfl⟩
  rw [hw4] at HR4 HG4 HT4 HZ4
  have lt4 := HT4.out.box.lt
  obtain ⟨hbc4, hbf4⟩ := HR4.out.bad
  have lg4 := HR4.out.lt
  have hde : decide ((6 : Int) < (deep : Int)) = false := by simp; omega
  go_upto_region 3 with fail
  (try rw [hde])
  (try rw [hw4])
  clear hw4 hde hbc hbf t0 lt3
  have t0 := HT4.out.box.cell 0
  by_cases h1 : y = 1
  · subst h1
    have HP1 := hide (show pTree true (f' + 1) l = (pNum true l1).map (fun p => (.mk 1 p.1 .empty [] [], p.2)) from by rw [HP.out, if_pos rfl])
    clear HP
    have HNU := hide (numI_any HR4.out)
    go_wp2_with fail
    skip
    refine HNU.out.mono ?_
    rintro e w6 ⟨s, l6, b6, rfl, hs0, hs1, h6, hg6, hok6⟩
    have HSI := hide (sizeI_any h6)
    have HOK6 := hide hok6
    have hg6' := hg6
    have ht6 := (HT4.out.far hg6 (by omega)).box.cell 0
    clear hok6 h6
    go_wp2_with fail
    refine HSI.out.mono ?_
    rintro e w5 ⟨m, l5, b5, rfl, hm, h5, hg5', hok5'⟩
    have hg5 := only_trans hg6' hg5'
    obtain ⟨n, hn⟩ : ∃ n : Int, (if s = 1 then -(m : Int) else (m : Int)) = n := ⟨_, rfl⟩
    have hok5 := sev_num HOK6.out hok5'
    rw [hn] at hok5
    have hn0 : -34359738368 ≤ n := by rw [← hn]; split <;> omega
    have hn1 : n ≤ 34359738368 := by rw [← hn]; split <;> omega
    clear hok5' ht6 hg6' hg5' hg6 HOK6 HSI
    by_cases hs : s = 1
    · rw [if_pos hs] at hn
      subst hs
      have HR5 := hide h5
      have HG5 := hide (only_trans HG4.out hg5)
      have HT5 := hide (HT4.out.far hg5 (by omega))
      have HZ5 := hide (HZ4.out.grown hg5 (fun e => by injection e with e; omega))
      have HOK5 := hide hok5
      have x1f := HT5.out.box.frozen 1
      have HB1 := hide (HT5.out.box.set 1 (.int .i64 (m : Int)))
      have m1 := HB1.out.cell 1
      have m1f := HB1.out.frozen 1
      have m1l := HB1.out.lt
      have HBX := hide (HB1.out.set 1 (.int .i64 n))
      have hBX : Below w2.heap.size w5 ((w5.setCell ⟨w2.heap.size, 1, none⟩ (.int .i64 (m : Int))).setCell ⟨w2.heap.size, 1, none⟩ (.int .i64 n)) := ((Below.refl _ _).setCell (p := ⟨w2.heap.size, 1, none⟩) (Nat.le_refl _) _).setCell (p := ⟨w2.heap.size, 1, none⟩) (Nat.le_refl _) _
      have HRx := hide (HR5.out.low hBX (by omega))
      have HGx := hide (only_low HG5.out hBX (by omega))
      have HZx := hide (HZ5.out.below hBX hbw)
      have HZq := HZx
      have z0 := HZq.out.cell 0
      have y0 := HZq.out.frozen 0
      have z1 := HZq.out.cell 1
      have y1 := HZq.out.frozen 1
      have z2 := HZq.out.cell 2
      have y2 := HZq.out.frozen 2
      have z3 := HZq.out.cell 3
      have y3 := HZq.out.frozen 3
      have z4 := HZq.out.cell 4
      have y4 := HZq.out.frozen 4
      have lz := HZq.out.lt
      have q0 := HBX.out.cell 0
      have q1 := HBX.out.cell 1
      have q2 := HBX.out.cell 2
      have q3 := HBX.out.cell 3
      have q4 := HBX.out.cell 4
      have p0 := HT5.out.box.cell 0
      have p1 := HT5.out.box.cell 1
      have p2 := HT5.out.box.cell 2
      have p3 := HT5.out.box.cell 3
      have p4 := HT5.out.box.cell 4
      have lq := HBX.out.lt
      have lq5 := HT5.out.box.lt
      clear h5 hg5 hok5 t0  lt4
      have hn2 : -(m : Int) = n := hn
      clear hn
      go_wp2
      refine bodyPost_ret (ret_row rfl _ _ w.heap.size 26 [.int .i64 1, .int .i64 n, .string .empty, .slice none 0 0, .slice none 0 0] (HZq.out.setAll [.int .i64 1, .int .i64 n, .string .empty, .slice none 0 0, .slice none 0 0] rfl) _ rfl Try.underlying26 rfl (by kernel_rfl)) rfl ?_
      exact ⟨.mk 1 n .empty [] [], _, [], l5, b5, rfl, leaf_ow _ (wfi (by omega) (by omega)) (wfi (by omega) (by omega)) empty_le, New.nil _ _, HRx.out.low (fin_low HGx.out [.int .i64 1, .int .i64 n, .string .empty, .slice none 0 0, .slice none 0 0]) hgw, fin_grown HGx.out [.int .i64 1, .int .i64 n, .string .empty, .slice none 0 0, .slice none 0 0], (by rw [HP1.out]; exact okr_map (fun q => Tree.mk 1 q .empty [] []) HOK5.out)⟩
    · rw [if_neg hs] at hn
      subst hn
      have HR5 := hide h5
      have HG5 := hide (only_trans HG4.out hg5)
      have HT5 := hide (HT4.out.far hg5 (by omega))
      have HZ5 := hide (HZ4.out.grown hg5 (fun e => by injection e with e; omega))
      have HOK5 := hide hok5
      have x1f := HT5.out.box.frozen 1
      have HBX := hide (HT5.out.box.set 1 (.int .i64 (m : Int)))
      have hBX : Below w2.heap.size w5 (w5.setCell ⟨w2.heap.size, 1, none⟩ (.int .i64 (m : Int))) := (Below.refl _ _).setCell (p := ⟨w2.heap.size, 1, none⟩) (Nat.le_refl _) _
      have HRx := hide (HR5.out.low hBX (by omega))
      have HGx := hide (only_low HG5.out hBX (by omega))
      have HZx := hide (HZ5.out.below hBX hbw)
      have HZq := HZx
      have z0 := HZq.out.cell 0
      have y0 := HZq.out.frozen 0
      have z1 := HZq.out.cell 1
      have y1 := HZq.out.frozen 1
      have z2 := HZq.out.cell 2
      have y2 := HZq.out.frozen 2
      have z3 := HZq.out.cell 3
      have y3 := HZq.out.frozen 3
      have z4 := HZq.out.cell 4
      have y4 := HZq.out.frozen 4
      have lz := HZq.out.lt
      have q0 := HBX.out.cell 0
      have q1 := HBX.out.cell 1
      have q2 := HBX.out.cell 2
      have q3 := HBX.out.cell 3
      have q4 := HBX.out.cell 4
      have p0 := HT5.out.box.cell 0
      have p1 := HT5.out.box.cell 1
      have p2 := HT5.out.box.cell 2
      have p3 := HT5.out.box.cell 3
      have p4 := HT5.out.box.cell 4
      have lq := HBX.out.lt
      have lq5 := HT5.out.box.lt
      clear h5 hg5 hok5 t0  lt4
      go_wp2
      refine bodyPost_ret (ret_row rfl _ _ w.heap.size 26 [.int .i64 1, .int .i64 (m : Int), .string .empty, .slice none 0 0, .slice none 0 0] (HZq.out.setAll [.int .i64 1, .int .i64 (m : Int), .string .empty, .slice none 0 0, .slice none 0 0] rfl) _ rfl Try.underlying26 rfl (by kernel_rfl)) rfl ?_
      exact ⟨.mk 1 (m : Int) .empty [] [], _, [], l5, b5, rfl, leaf_ow _ (wfi (by omega) (by omega)) (wfi (by omega) (by omega)) empty_le, New.nil _ _, HRx.out.low (fin_low HGx.out [.int .i64 1, .int .i64 (m : Int), .string .empty, .slice none 0 0, .slice none 0 0]) hgw, fin_grown HGx.out [.int .i64 1, .int .i64 (m : Int), .string .empty, .slice none 0 0, .slice none 0 0], (by rw [HP1.out]; exact okr_map (fun q => Tree.mk 1 q .empty [] []) HOK5.out)⟩
  by_cases h2 : y = 2
  · subst h2
    have HP1 := hide (show pTree true (f' + 1) l = (pShort l1).map (fun p => (.mk 2 0 p.1 [] [], p.2)) from by rw [HP.out, if_neg h1, if_pos rfl])
    clear HP
    have HNU := hide (textI_any HR4.out)
    go_wp2_with fail
    skip
    refine HNU.out.mono ?_
    rintro e w5 ⟨n, l5, b5, rfl, hn1, h5, hg5, hok5⟩
    have HR5 := hide h5
    have HG5 := hide (only_trans HG4.out hg5)
    have HT5 := hide (HT4.out.far hg5 (by omega))
    have HZ5 := hide (HZ4.out.grown hg5 (fun e => by injection e with e; omega))
    have HOK5 := hide hok5
    have x2f := HT5.out.box.frozen 2
    have HBX := hide (HT5.out.box.set 2 (.string n))
    have hBX : Below w2.heap.size w5 (w5.setCell ⟨w2.heap.size, 2, none⟩ (.string n)) := (Below.refl _ _).setCell (p := ⟨w2.heap.size, 2, none⟩) (Nat.le_refl _) _
    have HRx := hide (HR5.out.low hBX (by omega))
    have HGx := hide (only_low HG5.out hBX (by omega))
    have HZx := hide (HZ5.out.below hBX hbw)
    have HZq := HZx
    have z0 := HZq.out.cell 0
    have y0 := HZq.out.frozen 0
    have z1 := HZq.out.cell 1
    have y1 := HZq.out.frozen 1
    have z2 := HZq.out.cell 2
    have y2 := HZq.out.frozen 2
    have z3 := HZq.out.cell 3
    have y3 := HZq.out.frozen 3
    have z4 := HZq.out.cell 4
    have y4 := HZq.out.frozen 4
    have lz := HZq.out.lt
    have q0 := HBX.out.cell 0
    have q1 := HBX.out.cell 1
    have q2 := HBX.out.cell 2
    have q3 := HBX.out.cell 3
    have q4 := HBX.out.cell 4
    have p0 := HT5.out.box.cell 0
    have p1 := HT5.out.box.cell 1
    have p2 := HT5.out.box.cell 2
    have p3 := HT5.out.box.cell 3
    have p4 := HT5.out.box.cell 4
    have lq := HBX.out.lt
    have lq5 := HT5.out.box.lt
    clear h5 hg5 hok5 t0  lt4
    go_wp2
    refine bodyPost_ret (ret_row rfl _ _ w.heap.size 26 [.int .i64 2, .int .i64 0, .string n, .slice none 0 0, .slice none 0 0] (HZq.out.setAll [.int .i64 2, .int .i64 0, .string n, .slice none 0 0, .slice none 0 0] rfl) _ rfl Try.underlying26 rfl (by kernel_rfl)) rfl ?_
    exact ⟨.mk 2 0 n [] [], _, [], l5, b5, rfl, leaf_ow _ (wfi (by omega) (by omega)) (wfi (by omega) (by omega)) (by unfold maxLen; omega), New.nil _ _, HRx.out.low (fin_low HGx.out [.int .i64 2, .int .i64 0, .string n, .slice none 0 0, .slice none 0 0]) hgw, fin_grown HGx.out [.int .i64 2, .int .i64 0, .string n, .slice none 0 0, .slice none 0 0], (by rw [HP1.out]; exact okr_map (fun q => Tree.mk 2 0 q [] []) HOK5.out)⟩
  by_cases h3 : y = 3
  · subst h3
    have HP1 := hide (show pTree true (f' + 1) l = (pOne l1).map (fun p => (.mk 3 p.1 .empty [] [], p.2)) from by rw [HP.out, if_neg h1, if_neg h2, if_pos rfl])
    clear HP
    have HNU := hide (numI_any HR4.out)
    go_wp2_with fail
    skip
    refine HNU.out.mono ?_
    rintro e w5 ⟨n, l5, b5, rfl, hn0, hn1, h5, hg5, hok5⟩
    have HR5 := hide h5
    have HG5 := hide (only_trans HG4.out hg5)
    have HT5 := hide (HT4.out.far hg5 (by omega))
    have HZ5 := hide (HZ4.out.grown hg5 (fun e => by injection e with e; omega))
    have HOK5 := hide hok5
    have x1f := HT5.out.box.frozen 1
    have HBX := hide (HT5.out.box.set 1 (.int .i64 n))
    have hBX : Below w2.heap.size w5 (w5.setCell ⟨w2.heap.size, 1, none⟩ (.int .i64 n)) := (Below.refl _ _).setCell (p := ⟨w2.heap.size, 1, none⟩) (Nat.le_refl _) _
    have HRx := hide (HR5.out.low hBX (by omega))
    have HGx := hide (only_low HG5.out hBX (by omega))
    have HZx := hide (HZ5.out.below hBX hbw)
    have HZq := HZx
    have z0 := HZq.out.cell 0
    have y0 := HZq.out.frozen 0
    have z1 := HZq.out.cell 1
    have y1 := HZq.out.frozen 1
    have z2 := HZq.out.cell 2
    have y2 := HZq.out.frozen 2
    have z3 := HZq.out.cell 3
    have y3 := HZq.out.frozen 3
    have z4 := HZq.out.cell 4
    have y4 := HZq.out.frozen 4
    have lz := HZq.out.lt
    have q0 := HBX.out.cell 0
    have q1 := HBX.out.cell 1
    have q2 := HBX.out.cell 2
    have q3 := HBX.out.cell 3
    have q4 := HBX.out.cell 4
    have p0 := HT5.out.box.cell 0
    have p1 := HT5.out.box.cell 1
    have p2 := HT5.out.box.cell 2
    have p3 := HT5.out.box.cell 3
    have p4 := HT5.out.box.cell 4
    have lq := HBX.out.lt
    have lq5 := HT5.out.box.lt
    clear h5 hg5 hok5 t0  lt4
    go_wp2
    refine bodyPost_ret (ret_row rfl _ _ w.heap.size 26 [.int .i64 3, .int .i64 n, .string .empty, .slice none 0 0, .slice none 0 0] (HZq.out.setAll [.int .i64 3, .int .i64 n, .string .empty, .slice none 0 0, .slice none 0 0] rfl) _ rfl Try.underlying26 rfl (by kernel_rfl)) rfl ?_
    exact ⟨.mk 3 n .empty [] [], _, [], l5, b5, rfl, leaf_ow _ (wfi (by omega) (by omega)) (wfi (by omega) (by omega)) empty_le, New.nil _ _, HRx.out.low (fin_low HGx.out [.int .i64 3, .int .i64 n, .string .empty, .slice none 0 0, .slice none 0 0]) hgw, fin_grown HGx.out [.int .i64 3, .int .i64 n, .string .empty, .slice none 0 0, .slice none 0 0], (by rw [HP1.out]; exact okr_map (fun q => Tree.mk 3 q .empty [] []) HOK5.out)⟩
  have HP4 := hide (show pTree true (f' + 1) l = pMany (pTree true f') y l1 from by rw [HP.out, if_neg h1, if_neg h2, if_neg h3])
  clear HP
  have hi1 : ((y : Int) == 1) = false := by simp; omega
  have hi2 : ((y : Int) == 2) = false := by simp; omega
  have hi3 : ((y : Int) == 3) = false := by simp; omega
  have hyw : (Lit.int .i64 (y : Int)).wf = true := wfi (by omega) (by omega)
  have HNU := hide (numI_any HR4.out)
  clear h1 h2 h3
  go_wp2_with fail
  skip
  refine HNU.out.mono ?_
  rintro e w5 ⟨m, l5, b5, rfl, hm0, hm1, h5, hg5, hok5⟩
  obtain ⟨m, rfl⟩ : ∃ m' : Nat, m = (m' : Int) := ⟨m.toNat, by omega⟩
  have HK0 := hide (KidsAt.start (rd := pTree true f') (y := y) hok5)
  have HR5 := hide h5
  have HG5 := hide (only_trans HG4.out hg5)
  have HT5 := hide (HT4.out.far hg5 (by omega))
  have HZ5 := hide (HZ4.out.grown hg5 (fun e => by injection e with e; omega))
  obtain ⟨dd, hdd⟩ : ∃ dd : Nat, deep + 1 = dd := ⟨_, rfl⟩
  have hwd : IntKind.i64.wrap ((deep : Int) + 1) = (dd : Int) := by rw [wrapI _ (by omega) (by omega)]; omega
  have HIC := hide (fun (l : List UInt8) (bad : Bool) (W : World) (h : RdI W g L l bad) => HI.out L l bad g dd W (by omega) (by omega) h)
  clear h5 hg5 hok5 HNU lg3 t0  hbc4 hbf4 lg4 lt4 hdd
  go_wp2
  go_loopw [56] (fun iv wr => ∃ (n : Nat) (ns : List ByteArray) (ks : List Tree) (lx : List UInt8) (bx : Bool) (B1 : Option Addr) (n1 d1 : Nat) (us1 : List Value) (B2 : Option Addr) (n2 d2 : Nat) (us2 : List Value) (fi2 : List Nat), (∃ i : Nat, i + n = m ∧ iv = .int .i64 (i : Int)) ∧ TreeAt wr w2.heap.size (y : Int) (.slice B1 n1 d1) ns us1 (.slice B2 n2 d2) ks us2 fi2 ∧ RdI wr g L lx bx ∧ ns.length + n ≤ 255 ∧ ks.length + n ≤ 255 ∧ KidsAt (pTree true f') y l1 bx n ns ks lx ∧ w.grownBy wr (some g) ∧ Row wr w.heap.size 26 [.int .i64 0, .int .i64 0, .string .empty, .slice none 0 0, .slice none 0 0]) (fun iv _ => m - (intOf iv).toNat)
  case atStart => exact ⟨m, [], [], l5, b5, none, 0, 0, [], none, 0, 0, [], [], ⟨0, by omega, rfl⟩, HT5.out, HR5.out, by simp; omega, by simp; omega, HK0.out, HG5.out, HZ5.out⟩
  case round =>
    obtain ⟨n, ns, ks, lx, bx, B1, n1, d1, us1, B2, n2, d2, us2, fi2, ⟨i, hin, rfl⟩, hT, hR, hln, hlk, hK, hG, hZ⟩ := hrel
    have HTr := hide hT
    have HRr := hide hR
    have HK := hide hK
    have HG := hide hG
    have HZ := hide hZ
    have q0 : wr.cell? ⟨w2.heap.size, 0, none⟩ = some (.int .i64 (y : Int)) := hT.box.cell 0
    have lq := hT.box.lt
    obtain ⟨hbc, hbf⟩ := hR.bad
    have lgr := hR.lt
    clear hT hR hK hG hZ HR5 HG5 HT5 HZ5 HK0
    rcases n with _ | n
    · have hzz : bx = false → 0 = 0 := fun _ => rfl
      have hii : ¬ ((i : Int) < (m : Int)) := by omega
      have HZq := HZ
      have z0 := HZq.out.cell 0
      have y0 := HZq.out.frozen 0
      have z1 := HZq.out.cell 1
      have y1 := HZq.out.frozen 1
      have z2 := HZq.out.cell 2
      have y2 := HZq.out.frozen 2
      have z3 := HZq.out.cell 3
      have y3 := HZq.out.frozen 3
      have z4 := HZq.out.cell 4
      have y4 := HZq.out.frozen 4
      have lz := HZq.out.lt
      have q1 := HTr.out.box.cell 1
      have q2 := HTr.out.box.cell 2
      have q3 := HTr.out.box.cell 3
      have q4 := HTr.out.box.cell 4
      go_wp2
      obtain ⟨fq, ho, hnw⟩ := kids_fin HTr.out hyw HG.out hbw (treeMk (y : Int) (.slice B1 n1 d1) (.slice B2 n2 d2))
      refine bodyPost_ret (ret_row rfl _ _ w.heap.size 26 (treeMk (y : Int) (.slice B1 n1 d1) (.slice B2 n2 d2)) (HZq.out.setAll (treeMk (y : Int) (.slice B1 n1 d1) (.slice B2 n2 d2)) rfl) _ rfl Try.underlying26 rfl (by kernel_rfl)) rfl ?_
      exact ⟨.mk (y : Int) 0 .empty ns ks, _, fq, lx, _, rfl, ho, hnw, HRr.out.low (fin_low HG.out (treeMk (y : Int) (.slice B1 n1 d1) (.slice B2 n2 d2))) hgw, fin_grown HG.out (treeMk (y : Int) (.slice B1 n1 d1) (.slice B2 n2 d2)), by rw [HP4.out]; exact HK.out.done (fun _ => rfl)⟩
    have hn0 : (0 : Int) < ((n + 1 : Nat) : Int) := by omega
    rcases bx with _ | _
    rotate_left
    all_goals have hii : (i : Int) < (m : Int) := by omega
    · skip
      have HZq := HZ
      have z0 := HZq.out.cell 0
      have y0 := HZq.out.frozen 0
      have z1 := HZq.out.cell 1
      have y1 := HZq.out.frozen 1
      have z2 := HZq.out.cell 2
      have y2 := HZq.out.frozen 2
      have z3 := HZq.out.cell 3
      have y3 := HZq.out.frozen 3
      have z4 := HZq.out.cell 4
      have y4 := HZq.out.frozen 4
      have lz := HZq.out.lt
      have q1 := HTr.out.box.cell 1
      have q2 := HTr.out.box.cell 2
      have q3 := HTr.out.box.cell 3
      have q4 := HTr.out.box.cell 4
      go_wp2
      obtain ⟨fq, ho, hnw⟩ := kids_fin HTr.out hyw HG.out hbw (treeMk (y : Int) (.slice B1 n1 d1) (.slice B2 n2 d2))
      refine bodyPost_ret (ret_row rfl _ _ w.heap.size 26 (treeMk (y : Int) (.slice B1 n1 d1) (.slice B2 n2 d2)) (HZq.out.setAll (treeMk (y : Int) (.slice B1 n1 d1) (.slice B2 n2 d2)) rfl) _ rfl Try.underlying26 rfl (by kernel_rfl)) rfl ?_
      exact ⟨.mk (y : Int) 0 .empty ns ks, _, fq, lx, _, rfl, ho, hnw, HRr.out.low (fin_low HG.out (treeMk (y : Int) (.slice B1 n1 d1) (.slice B2 n2 d2))) hgw, fin_grown HG.out (treeMk (y : Int) (.slice B1 n1 d1) (.slice B2 n2 d2)), by rw [HP4.out]; exact HK.out.done (fun h => by cases h)⟩
    by_cases hy5 : y = 5
    · have HY := hide hy5
      have hi5 : ((y : Int) == 5) = true := by simp; omega
      clear hy5
      have t3 : wr.cell? ⟨w2.heap.size, 3, none⟩ = some (.slice B1 n1 d1) := HTr.out.box.cell 3
      have hszA : w2.heap.size + 1 ≤ wr.heap.size := HTr.out.box.lt
      go_upto_region 22 with fail
      go_cut [] from 57 to 81 (fun wx => ∃ (s : ByteArray) (l3 : List UInt8) (b3 : Bool) (C1 : Option Addr) (m1 c1 : Nat) (us1' : List Value), TreeAt wx w2.heap.size (y : Int) (.slice C1 m1 c1) (ns ++ [s]) us1' (.slice B2 n2 d2) ks us2 fi2 ∧ RdI wx g L l3 b3 ∧ Okr false b3 (pShort lx) s l3 ∧ w.grownBy wx (some g) ∧ Row wx w.heap.size 26 [.int .i64 0, .int .i64 0, .string .empty, .slice none 0 0, .slice none 0 0])
      case first =>
        go_region_law (first | (refine step_app (by rfl) _ _ 23 (by rfl) ia _ 16 Try.underlying23 HIa.out ha0 ha1 ha2 rfl (by decide) strC_len (by rfl) HT7.out.one [s] (HDS.out _) (by exact New.nil _ _) (fun g _ hg => by cases hg) _ 1 1 (by rfl) rfl (SrcAt.new w6 _ _ _ _) (by omega) (by decide) (by rw [World.size_alloc]; omega) ?_; intro A' n' c' w8 hn8 hown8 hgb8; have HG8 := hide hgb8; have HN8 := hide hown8; have r8 := HT7.out.row1 hgb8; have q8 : w8.cell? ⟨w2.heap.size, 3, none⟩ = some (.slice B1 n1 d1) := r8.cell 3; have f8 : w8.frozen? ⟨w2.heap.size, 3, none⟩ = false := r8.frozen 3; clear hown8 hgb8 r8 hn8) | (go_simp; go_at_call 80; refine (HSH.out lx false _ (HRr.out.drewN 1)).mono ?_; rintro e w6 ⟨s, l6, b6, rfl, hs6, hr6, hg6, hok6⟩; have HR6 := hide hr6; have HG6 := hide (only_trans (only_drewN HG.out 1) hg6); have HOK6 := hide hok6; have HZ6 := hide ((HZ.out.drewN 1).grown hg6 (fun e => by injection e with e; omega)); have hz6 : wr.heap.size ≤ w6.heap.size := hg6.size; have HT6 := hide ((HTr.out.drewN 1).far hg6 (by omega)); have t3c : w6.cell? ⟨w2.heap.size, 3, none⟩ = some (.slice B1 n1 d1) := HT6.out.box.cell 3; have lt6 := HT6.out.box.lt; have HT7 := hide (HT6.out.alloc (.cells #[.string s] 9)); have HDS := hide (fun W => show OwC W ([s].flatMap strC) [.string s] [] from ⟨[], [], ⟨rfl, show s.size ≤ maxLen by (unfold maxLen; omega), rfl⟩, rfl, rfl⟩); clear hr6 hg6 hok6))
        all_goals
          have hfr : ∀ u, Below w.heap.size w6 (w8.setCell ⟨w2.heap.size, 3, none⟩ u) := fun u => ((Below.refl w.heap.size w6).alloc (by omega) _).trans (HT7.out.frame1 HG8.out (by rw [World.size_alloc]; omega) 3 u (by omega))
          go_wp2_with fail
          go_meet
          exact ⟨s, l6, b6, A', n', c', us1 ++ [.string s], HT7.out.put1 HG8.out HN8.out 3 rfl (fun g hg => by cases hg), HR6.out.low (hfr _) hgw, HOK6.out, only_low HG6.out (hfr _) (Nat.le_refl _), Row.far (p := ⟨w2.heap.size, 3, none⟩) (HG8.out.row (HZ6.out.alloc _) (HT7.out.one.low (by omega))) (Nat.ne_of_lt hbw) _⟩
      case rest =>
        clear q0 lq hbc hbf lgr t3 hszA
        obtain ⟨s, l3, b3, C1, m1, c1, us1', hT, hR, hok, hG, hZ⟩ := hcut
        have HTc := hide hT
        have HRc := hide hR
        have HOKc := hide hok
        have HGc := hide hG
        have HZc := hide hZ
        have lq := hT.box.lt
        have lgr := hR.lt
        clear hT hR hok hG hZ
        have hszA : w2.heap.size + 1 ≤ wc.heap.size := HTc.out.box.lt
        have t4 : wc.cell? ⟨w2.heap.size, 4, none⟩ = some (.slice B2 n2 d2) := HTc.out.box.cell 4
        go_wp2
        go_region_law (first | (refine step_app (by rfl) _ _ 24 (by rfl) ib _ 80 Try.underlying24 HIb.out hb0 hb1 hb2 rfl (by decide) Tree.cells_len (by rfl) HT7.out.two [t] (by rw [List.flatMap_singleton]; exact HO7.out) (New.app HT7.out.two.new (HN7.out.mono (Nat.le_refl _)) (fun g hg => HTc.out.two.new.lt g hg) (by exact hszA)) (fun g e hm => by have k1 := HTc.out.two.lt g e; have k2 := (HN6.out.fr g hm).1; exact absurd k1 (Nat.not_lt.2 k2)) _ 1 1 (by rfl) rfl (SrcAt.new w6 _ _ _ _) (by omega) (by decide) (by rw [World.size_alloc]; omega) ?_; intro A' n' c' w8 hn8 hown8 hgb8; have HG8 := hide hgb8; have HN8 := hide hown8; have r8 := HT7.out.row2 hgb8; have q8 : w8.cell? ⟨w2.heap.size, 4, none⟩ = some (.slice B2 n2 d2) := r8.cell 4; have f8 : w8.frozen? ⟨w2.heap.size, 4, none⟩ = false := r8.frozen 4; have HNN8 := hide hn8; clear hown8 hgb8 r8 hn8) | (go_simp; go_at_call 82; refine (HIC.out l3 b3 _ (HRc.out.drewN 1)).mono ?_; rintro e w6 ⟨t, us6, fq6, l6, b6, rfl, ho6, hn6, hr6, hg6, hok6⟩; have HO6 := hide ho6; have HN6 := hide hn6; have HR6 := hide hr6; have HG6 := hide (only_trans (only_drewN HGc.out 1) hg6); have HOK6 := hide hok6; have HZ6 := hide ((HZc.out.drewN 1).grown hg6 (fun e => by injection e with e; omega)); have hs6 : wc.heap.size ≤ w6.heap.size := hg6.size; obtain ⟨E1, e1, E2, e2, g1, g2, rfl, x0, x1, x2, x3, x4, efq⟩ := ho6.oTree; have HT6 := hide ((HTc.out.drewN 1).far hg6 (by omega)); have t4c : w6.cell? ⟨w2.heap.size, 4, none⟩ = some (.slice B2 n2 d2) := HT6.out.box.cell 4; have lt6 := HT6.out.box.lt; have HT7 := hide (HT6.out.alloc (.cells #[.int .i64 t.sort, .int .i64 t.num, .string t.text, .slice E1 t.names.length e1, .slice E2 t.kids.length e2] 26)); have HO7 := hide (HO6.out.alloc HN6.out.lt (.cells #[.int .i64 t.sort, .int .i64 t.num, .string t.text, .slice E1 t.names.length e1, .slice E2 t.kids.length e2] 26)); have HN7 := hide (HN6.out.alloc (.cells #[.int .i64 t.sort, .int .i64 t.num, .string t.text, .slice E1 t.names.length e1, .slice E2 t.kids.length e2] 26)); clear ho6 hn6 hr6 hg6 hok6 x3 x4 efq))
        all_goals
          have hfr : ∀ u, Below w.heap.size w6 (w8.setCell ⟨w2.heap.size, 4, none⟩ u) := fun u => ((Below.refl w.heap.size w6).alloc (by omega) _).trans (HT7.out.frame2 HG8.out (by rw [World.size_alloc]; omega) 4 u (by omega))
          have HF := hide (fun W (hW : W = w8.setCell ⟨w2.heap.size, 4, none⟩ (.slice A' n' c')) => show TreeAt W w2.heap.size (y : Int) (.slice C1 m1 c1) (ns ++ [s]) us1' (.slice A' n' c') (ks ++ [t]) (us2 ++ [.int .i64 t.sort, .int .i64 t.num, .string t.text, .slice E1 t.names.length e1, .slice E2 t.kids.length e2]) (fi2 ++ fq6) ∧ RdI W g L l6 b6 ∧ w.grownBy W (some g) ∧ Row W w.heap.size 26 [.int .i64 0, .int .i64 0, .string .empty, .slice none 0 0, .slice none 0 0] from by
            subst hW
            refine ⟨HT7.out.put2 HG8.out HN8.out 4 rfl (fun g hg => ?_), HR6.out.low (hfr _) hgw, only_low HG6.out (hfr _) (Nat.le_refl _), ?_⟩
            · rcases List.mem_append.1 hg with hg | hg
              · exact .inl hg
              · exact .inr ⟨fun e => absurd (HTc.out.one.lt g e) (Nat.not_lt.2 (HN6.out.fr g hg).1), fun h => by cases h⟩
            · exact Row.far (p := ⟨w2.heap.size, 4, none⟩) (HG8.out.row (HZ6.out.alloc _) (HT7.out.two.low (by omega))) (Nat.ne_of_lt hbw) _)
          have hKn := hide (HK.out.form HY.out HOKc.out HOK6.out)
          clear hfr
          go_wp2
          go_roundw
          case rel => exact ⟨n, _, _, _, _, _, _, _, _, A', n', c', _, _, ⟨i + 1, by omega, by go_num⟩, (HF.out _ rfl).1, (HF.out _ rfl).2.1, by (try simp only [List.length_append, List.length_cons, List.length_nil]); omega, by (try simp only [List.length_append, List.length_cons, List.length_nil]); omega, hKn.out, (HF.out _ rfl).2.2⟩
          case measure => simp [intOf] <;> omega
    · have hi5 : ((y : Int) == 5) = false := by simp; omega
      have hszA : w2.heap.size + 1 ≤ wr.heap.size := HTr.out.box.lt
      have t4 : wr.cell? ⟨w2.heap.size, 4, none⟩ = some (.slice B2 n2 d2) := HTr.out.box.cell 4
      go_wp2
      go_region_law (first | (refine step_app (by rfl) _ _ 24 (by rfl) ib _ 80 Try.underlying24 HIb.out hb0 hb1 hb2 rfl (by decide) Tree.cells_len (by rfl) HT7.out.two [t] (by rw [List.flatMap_singleton]; exact HO7.out) (New.app HT7.out.two.new (HN7.out.mono (Nat.le_refl _)) (fun g hg => HTr.out.two.new.lt g hg) (by exact hszA)) (fun g e hm => by have k1 := HTr.out.two.lt g e; have k2 := (HN6.out.fr g hm).1; exact absurd k1 (Nat.not_lt.2 k2)) _ 1 1 (by rfl) rfl (SrcAt.new w6 _ _ _ _) (by omega) (by decide) (by rw [World.size_alloc]; omega) ?_; intro A' n' c' w8 hn8 hown8 hgb8; have HG8 := hide hgb8; have HN8 := hide hown8; have r8 := HT7.out.row2 hgb8; have q8 : w8.cell? ⟨w2.heap.size, 4, none⟩ = some (.slice B2 n2 d2) := r8.cell 4; have f8 : w8.frozen? ⟨w2.heap.size, 4, none⟩ = false := r8.frozen 4; have HNN8 := hide hn8; clear hown8 hgb8 r8 hn8) | (go_simp; go_at_call 82; refine (HIC.out lx false _ (HRr.out.drewN 1)).mono ?_; rintro e w6 ⟨t, us6, fq6, l6, b6, rfl, ho6, hn6, hr6, hg6, hok6⟩; have HO6 := hide ho6; have HN6 := hide hn6; have HR6 := hide hr6; have HG6 := hide (only_trans (only_drewN HG.out 1) hg6); have HOK6 := hide hok6; have HZ6 := hide ((HZ.out.drewN 1).grown hg6 (fun e => by injection e with e; omega)); have hs6 : wr.heap.size ≤ w6.heap.size := hg6.size; obtain ⟨E1, e1, E2, e2, g1, g2, rfl, x0, x1, x2, x3, x4, efq⟩ := ho6.oTree; have HT6 := hide ((HTr.out.drewN 1).far hg6 (by omega)); have t4c : w6.cell? ⟨w2.heap.size, 4, none⟩ = some (.slice B2 n2 d2) := HT6.out.box.cell 4; have lt6 := HT6.out.box.lt; have HT7 := hide (HT6.out.alloc (.cells #[.int .i64 t.sort, .int .i64 t.num, .string t.text, .slice E1 t.names.length e1, .slice E2 t.kids.length e2] 26)); have HO7 := hide (HO6.out.alloc HN6.out.lt (.cells #[.int .i64 t.sort, .int .i64 t.num, .string t.text, .slice E1 t.names.length e1, .slice E2 t.kids.length e2] 26)); have HN7 := hide (HN6.out.alloc (.cells #[.int .i64 t.sort, .int .i64 t.num, .string t.text, .slice E1 t.names.length e1, .slice E2 t.kids.length e2] 26)); clear ho6 hn6 hr6 hg6 hok6 x3 x4 efq))
      all_goals
        have hfr : ∀ u, Below w.heap.size w6 (w8.setCell ⟨w2.heap.size, 4, none⟩ u) := fun u => ((Below.refl w.heap.size w6).alloc (by omega) _).trans (HT7.out.frame2 HG8.out (by rw [World.size_alloc]; omega) 4 u (by omega))
        have HF := hide (fun W (hW : W = w8.setCell ⟨w2.heap.size, 4, none⟩ (.slice A' n' c')) => show TreeAt W w2.heap.size (y : Int) (.slice B1 n1 d1) ns us1 (.slice A' n' c') (ks ++ [t]) (us2 ++ [.int .i64 t.sort, .int .i64 t.num, .string t.text, .slice E1 t.names.length e1, .slice E2 t.kids.length e2]) (fi2 ++ fq6) ∧ RdI W g L l6 b6 ∧ w.grownBy W (some g) ∧ Row W w.heap.size 26 [.int .i64 0, .int .i64 0, .string .empty, .slice none 0 0, .slice none 0 0] from by
          subst hW
          refine ⟨HT7.out.put2 HG8.out HN8.out 4 rfl (fun g hg => ?_), HR6.out.low (hfr _) hgw, only_low HG6.out (hfr _) (Nat.le_refl _), ?_⟩
          · rcases List.mem_append.1 hg with hg | hg
            · exact .inl hg
            · exact .inr ⟨fun e => absurd (HTr.out.one.lt g e) (Nat.not_lt.2 (HN6.out.fr g hg).1), fun h => by cases h⟩
          · exact Row.far (p := ⟨w2.heap.size, 4, none⟩) (HG8.out.row (HZ6.out.alloc _) (HT7.out.two.low (by omega))) (Nat.ne_of_lt hbw) _)
        have hKn := hide (HK.out.bare hy5 HOK6.out)
        clear hfr
        go_wp2
        go_roundw
        case rel => exact ⟨n, _, _, _, _, _, _, _, _, A', n', c', _, _, ⟨i + 1, by omega, by go_num⟩, (HF.out _ rfl).1, (HF.out _ rfl).2.1, by (try simp only [List.length_append, List.length_cons, List.length_nil]); omega, by (try simp only [List.length_append, List.length_cons, List.length_nil]); omega, hKn.out, (HF.out _ rfl).2.2⟩
        case measure => simp [intOf] <;> omega
theorem treeRdI_any : ∀ f, TreeRdI f
  | 0 => treeRdI_of 0 (fun f' e => by cases e)
  | f + 1 => treeRdI_of (f + 1) (fun f' e => by injection e with e; subst e; exact treeRdI_any f)
end Go.Proofs.Ytbjblchhenmgjaa
namespace Go.Proofs.Ytbjblchhenmgjaa
open Go.ChangeShapes Go.WideShapes Go.ChangeAt Go.RowKit

theorem Row.atU (w : World) (e : TypeId) (cs : List Value) (g : Nat) (h : w.heap.size = g) : Row (w.alloc (.cells cs.toArray e)) g e cs := h ▸ Row.new w e cs
theorem okr_event {strict b1 b2 b3 : Bool} {l l1 l2 l3 : List UInt8} {s : ByteArray} {v : Int} {t : Tree} (h1 : Okr false b1 (pShort l) s l1) (h2 : Okr b1 b2 (pOne l1) v l2) (h3 : Okr b2 b3 (pTree strict 6 l2) t l3) :
    Okr false b3 (pEvent strict l) ⟨s, v, t⟩ l3 := by
  have n1 : b1 = true → pEvent strict l = none := fun hb => by
    rcases h1.2 hb with h | h
    · cases h
    · simp only [pEvent, h]
  have n2 : b2 = true → pEvent strict l = none := fun hb => by
    cases hb1 : b1
    · rcases h2.2 hb with h | h
      · rw [hb1] at h; cases h
      · simp only [pEvent, (h1.1 hb1).2, h]
    · exact n1 hb1
  have n3 : b3 = true → pEvent strict l = none := fun hb => by
    cases hb2 : b2
    · have e2 := h2.1 hb2
      have e1 := h1.1 e2.1
      rcases h3.2 hb with h | h
      · rw [hb2] at h; cases h
      · simp only [pEvent, e1.2, e2.2, h, Option.map_none]
    · exact n2 hb2
  refine ⟨fun hb => ⟨rfl, ?_⟩, fun hb => .inr (n3 hb)⟩
  have e3 := h3.1 hb
  have e2 := h2.1 e3.1
  have e1 := h1.1 e2.1
  simp only [pEvent, e1.2, e2.2, e3.2, Option.map_some]
theorem unpack_gone {strict b3 : Bool} {l l3 : List UInt8} {x : Event} (h : Okr false b3 (pEvent strict l) x l3) (hb : b3 = true ∨ l3 ≠ []) : unpackE l = Event.none_ ∧ unpackB l = false := by
  refine unpack_bad (strict := strict) (fun y e => ?_)
  cases b3
  · have := (h.1 rfl).2
    rw [e] at this
    simp only [Option.some.injEq, Prod.mk.injEq] at this
    rcases hb with hb | hb
    · cases hb
    · exact hb this.2.symm
  · rcases h.2 rfl with h | h
    · cases h
    · rw [h] at e; cases e
theorem unpack_left {strict : Bool} {l : List UInt8} {x : Event} (h : Okr false false (pEvent strict l) x []) (hn : ¬ (x.ok ∧ x.bytes = l)) : unpackE l = Event.none_ ∧ unpackB l = false :=
  unpack_other (h.1 rfl).2 (fun hf => hn ⟨hf.1, hf.2.1⟩)
theorem unpack_back {l : List UInt8} {x : Event} (hl : l.length ≤ 9000) (h1 : x.ok) (h2 : x.bytes = l) : unpackE l = x ∧ unpackB l = true := unpack_yes ⟨h1, h2, hl⟩
theorem unpack_long {l : List UInt8} (hl : 9000 < l.length) : unpackE l = Event.none_ ∧ unpackB l = false := unpack_no (fun x hx => by have := hx.2.2; omega)
theorem okr_bulk {strict : Bool} {l : List UInt8} {x : Event} (h : Okr false false (pEvent strict l) x []) : x.bulk ≤ l.length := pEvent_bulk (h.1 rfl).2
theorem none_ow (W : World) : OwC W Event.none_.cells [.string .empty, .int .i64 0, .int .i64 0, .int .i64 0, .string .empty, .slice none 0 0, .slice none 0 0] [] := by
  exact OwC.mEvent (x := Event.none_) (v1 := .slice none 0 0) (v2 := .slice none 0 0) (f1 := []) (f2 := []) empty_le wfz wfz wfz empty_le (Ow.nil_ W 1 strC) (Ow.nil_ W 5 Tree.cells)
/-- what the result's block and the event's block are, behind the readers -/
structure UnpAt (w W : World) (b1 : Nat) (x : Event) (us : List Value) (fq : List Nat) : Prop where
  zero : Row W w.heap.size 28 [.string .empty, .int .i64 0, .int .i64 0, .int .i64 0, .string .empty, .slice none 0 0, .slice none 0 0]
  box : Row W b1 28 us
  ow : OwC W x.cells us fq
  new : New W fq (w.heap.size + 1)
  below : Below w.heap.size w W
theorem UnpAt.step {w W W' : World} {b1 : Nat} {x : Event} {us : List Value} {fq : List Nat} (h : UnpAt w W b1 x us fq) (hb : Below W.heap.size W W') : UnpAt w W' b1 x us fq :=
  ⟨h.zero.below hb h.zero.lt, h.box.below hb h.box.lt, h.ow.below hb h.new.lt, h.new.below hb h.new.lt, h.below.trans (hb.mono h.below.size)⟩
/-- the result's block is filled -/
theorem UnpAt.fin {w W : World} {b1 : Nat} {x : Event} {us : List Value} {fq : List Nat} (h : UnpAt w W b1 x us fq) (vs : List Value) :
    OwC (putN W w.heap.size 0 vs) x.cells us fq ∧ New (putN W w.heap.size 0 vs) fq w.heap.size ∧ Below w.heap.size w (putN W w.heap.size 0 vs) := by
  have hgr := setN_grown vs 0 (grown_refl W (some w.heap.size))
  have hno : w.heap.size ∉ fq := h.new.out (Nat.lt_succ_self _)
  exact ⟨h.ow.grown hgr h.new.lt hno, (h.new.grown hgr (fun b e => by injection e with e; subst e; exact hno)).mono (by omega), h.below.trans (below_of_grown hgr (Nat.le_refl _) h.below.size)⟩
theorem unp_none {w W : World} (h : Below w.heap.size w W) (vs : List Value) :
    OwC (putN W w.heap.size 0 vs) Event.none_.cells [.string .empty, .int .i64 0, .int .i64 0, .int .i64 0, .string .empty, .slice none 0 0, .slice none 0 0] [] ∧ New (putN W w.heap.size 0 vs) [] w.heap.size ∧ Below w.heap.size w (putN W w.heap.size 0 vs) :=
  ⟨none_ow _, New.nil _ _, h.trans (below_of_grown (setN_grown vs 0 (grown_refl W (some w.heap.size))) (Nat.le_refl _) h.size)⟩
def UnpOut (l : List UInt8) (w : World) (e : Ending) (w' : World) : Prop :=
  ∃ us fq, e = .returned (.tuple #[.agg us.toArray, .bool (unpackB l)]) ∧ OwC w' (unpackE l).cells us fq ∧ New w' fq w.heap.size ∧ Below w.heap.size w w'
/-- the event's own cells -/
theorem UnpAt.make {w W : World} {b1 : Nat} {s : ByteArray} {v : Int} {t : Tree} {u0 u1 u2 u3 u4 : Value} {fq : List Nat} (ho : OwC W t.cells [u0, u1, u2, u3, u4] fq) (hn : New W fq (b1 + 1)) (hw : w.heap.size < b1) (hs : s.size ≤ maxLen) (hv : (Lit.int .i64 v).wf = true)
    (hz : Row W w.heap.size 28 [.string .empty, .int .i64 0, .int .i64 0, .int .i64 0, .string .empty, .slice none 0 0, .slice none 0 0])
    (hB : Row W b1 28 [.string s, .int .i64 v, .int .i64 0, .int .i64 0, .string .empty, .slice none 0 0, .slice none 0 0]) (hb : Below w.heap.size w W) :
    UnpAt w (putN W b1 2 [u0, u1, u2, u3, u4]) b1 ⟨s, v, t⟩ [.string s, .int .i64 v, u0, u1, u2, u3, u4] fq := by
  obtain ⟨A1, c1, A2, c2, f1, f2, e, w0, w1, w2, o1, o2, rfl⟩ := ho.oTree
  simp only [List.cons.injEq, and_true] at e
  obtain ⟨rfl, rfl, rfl, rfl, rfl⟩ := e
  have hx : OwC W (Event.mk s v t).cells [.string s, .int .i64 v, .int .i64 t.sort, .int .i64 t.num, .string t.text, .slice A1 t.names.length c1, .slice A2 t.kids.length c2] (f1 ++ f2) :=
    OwC.mEvent (x := ⟨s, v, t⟩) hs hv w0 w1 w2 o1 o2
  have hgr := setN_grown [.int .i64 t.sort, .int .i64 t.num, .string t.text, .slice A1 t.names.length c1, .slice A2 t.kids.length c2] 2 (grown_refl W (some b1))
  have hno : b1 ∉ f1 ++ f2 := hn.out (Nat.lt_succ_self _)
  have hbb := hB.lt
  exact ⟨hz.grown hgr (fun e => by injection e with e; omega), Row.setN [.int .i64 t.sort, .int .i64 t.num, .string t.text, .slice A1 t.names.length c1, .slice A2 t.kids.length c2] [.string s, .int .i64 v] [.int .i64 0, .int .i64 0, .string .empty, .slice none 0 0, .slice none 0 0] rfl hB,
    hx.grown hgr hn.lt hno, (hn.grown hgr (fun b e => by injection e with e; subst e; exact hno)).mono (by omega), hb.trans (below_of_grown hgr (Nat.le_of_lt hw) (Nat.le_of_lt (Nat.lt_trans hw hbb)))⟩
theorem UnpAt.made {w W : World} {s : ByteArray} {v : Int} {t : Tree} {us : List Value} {fq : List Nat} (ho : OwC W t.cells us fq) (hn : New W fq (w.heap.size + 1)) (hs : s.size ≤ maxLen) (hv : (Lit.int .i64 v).wf = true)
    (hz : Row W w.heap.size 28 [.string .empty, .int .i64 0, .int .i64 0, .int .i64 0, .string .empty, .slice none 0 0, .slice none 0 0]) (hb : Below w.heap.size w W) :
    UnpAt w (W.alloc (.cells (.string s :: .int .i64 v :: us).toArray 28)) W.heap.size ⟨s, v, t⟩ (.string s :: .int .i64 v :: us) fq := by
  obtain ⟨A1, c1, A2, c2, f1, f2, rfl, w0, w1, w2, o1, o2, rfl⟩ := ho.oTree
  have hx : OwC W (Event.mk s v t).cells [.string s, .int .i64 v, .int .i64 t.sort, .int .i64 t.num, .string t.text, .slice A1 t.names.length c1, .slice A2 t.kids.length c2] (f1 ++ f2) :=
    OwC.mEvent (x := ⟨s, v, t⟩) hs hv w0 w1 w2 o1 o2
  exact ⟨hz.alloc _, Row.new W _ _, hx.alloc hn.lt _, hn.alloc _, hb.alloc hb.size _⟩
theorem event_ne {strict b3 : Bool} {l l3 : List UInt8} {x : Event} (h : Okr false b3 (pEvent strict l) x l3) (hb : b3 = false) : l.length ≠ 0 := fun e => by
  obtain rfl := List.eq_nil_of_length_eq_zero e
  have := (h.1 hb).2
  simp [pEvent, pShort] at this
theorem packed_ok {x : Event} {l : List UInt8} (h : x.packed = l) (hl : l.length ≠ 0) : x.ok := by
  refine Classical.byContradiction fun hn => ?_
  rw [Event.packed_no hn] at h
  subst h
  exact hl rfl
end Go.Proofs.Ytbjblchhenmgjaa
