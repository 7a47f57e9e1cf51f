/-
  Reading trees from texts: what the program does for each part of a list. Reading trees from texts: what the program does for each part of a form.
-/
import Derived.Deep.RegionHeld3
import Derived.Deep.RegionLaw
import Derived.Deep.CutRange
import Derived.Deep.DeepCutAuto
import Derived.Test.YtnaecdoeldoipaaGreatDoorKTrM
set_option linter.unusedVariables false
set_option linter.unusedSimpArgs false
namespace Go.Proofs.YtnaecdoeldoipaaGreatDoor
open Go.ChangeShapes Go.WideShapes Go.ChangeAt Go.RowKit

theorem setCell_swapT (w : World) {a b : Addr} (h : a.block ≠ b.block) (u v : Value) : (w.setCell a u).setCell b v = (w.setCell b v).setCell a u := by
  unfold World.setCell
  congr 1
  apply Array.ext_getElem?
  intro i
  simp only [Array.getElem?_modify]
  by_cases h1 : a.block = i
  · have h2 : ¬ (b.block = i) := fun e => h (h1.trans e.symm)
    simp [h1, h2]
  · by_cases h2 : b.block = i
    · simp [h1, h2]
    · simp [h1, h2]
theorem FinT.done2 {S : Int} {w W : World} {g lv blk c : Nat} {v1 v2 : Value} {ns : List ByteArray} {us1 : List Value} {ks : List Tree} {us2 : List Value} {fi2 : List Nat} {l : List UInt8} {fail : Bool} {k : Tree} {p q r p4 p5 : Value} {fq : List Nat} (h : FinT S w W g lv v1 ns us1 v2 blk c ks us2 fi2 l fail k [p, q, r, p4, p5] fq) (hgw : g < w.heap.size) :
    KT S w ((((((W.setCell ⟨w.heap.size + 3, 4, none⟩ (.slice (some ⟨blk, 0, none⟩) (ks.length + 1) c)).setCell ⟨blk, ks.length * 5, none⟩ p).setCell ⟨blk, ks.length * 5 + 1, none⟩ q).setCell ⟨blk, ks.length * 5 + 2, none⟩ r).setCell ⟨blk, ks.length * 5 + 3, none⟩ p4).setCell ⟨blk, ks.length * 5 + 4, none⟩ p5) g lv v1 ns us1 (.slice (some ⟨blk, 0, none⟩) (ks.length + 1) c) (ks ++ [k]) (us2 ++ [p, q, r, p4, p5]) (fi2 ++ fq) l fail := by
  have hne : w.heap.size + 3 ≠ blk := Nat.ne_of_lt h.app.cells.2.2.2.2.2.2.2.2.2.2.2
  rw [setCell_swapT W (a := ⟨w.heap.size + 3, 4, none⟩) (b := ⟨blk, ks.length * 5, none⟩) hne, setCell_swapT _ (a := ⟨w.heap.size + 3, 4, none⟩) (b := ⟨blk, ks.length * 5 + 1, none⟩) hne, setCell_swapT _ (a := ⟨w.heap.size + 3, 4, none⟩) (b := ⟨blk, ks.length * 5 + 2, none⟩) hne, setCell_swapT _ (a := ⟨w.heap.size + 3, 4, none⟩) (b := ⟨blk, ks.length * 5 + 3, none⟩) hne, setCell_swapT _ (a := ⟨w.heap.size + 3, 4, none⟩) (b := ⟨blk, ks.length * 5 + 4, none⟩) hne]
  exact h.done hgw
set_option maxRecDepth 100000 in
set_option maxHeartbeats 20000000 in
theorem partT1_any {f lv : Nat} (hlf : lv + 1 + f = 7) (hlv : 1 ≤ lv) (ih : TreeRdI f) {w wr : World} {g : Nat} (hlay : Lay w) (h7 : 5 < g) (hgw : g < w.heap.size) {B1 : Option Addr} {n1 d1 : Nat} {ns : List ByteArray} {us1 : List Value} {B2 : Option Addr} {n2 d2 : Nat} {ks : List Tree} {us2 : List Value} {fi2 : List Nat} {l : List UInt8} (h : KT 4 w wr g lv (.slice B1 n1 d1) ns us1 (.slice B2 n2 d2) ks us2 fi2 l false) (hns : ns.length ≤ 100000) (hks : ks.length ≤ 100000) :
    Calls Tryz.prog 100 #[.pointer (some ⟨w.heap.size + 3, 0, none⟩), .pointer (some ⟨w.heap.size, 0, none⟩), .pointer (some ⟨w.heap.size + 1, 0, none⟩)] wr (PartOutT 4 w g lv ns ks l) := by
  have H := hide h
  have HI := hide (fun (W : World) (l : List UInt8) (bad : Bool) (hgr : w.grownBy W (some g)) (h : RdJ W g l bad) => show Calls Tryz.prog 47 #[.pointer (some ⟨g, 0, none⟩), .int .i64 ((lv : Int) + 1)] W (TreeOutR (fun w l b => RdJ w g l b) g (lv + 1) l bad W) from by
    have h := ih l bad g (lv + 1) W (by omega) (by omega) (hlay.far hgr h7 hgw) h7 h
    rw [show ((lv + 1 : Nat) : Int) = (lv : Int) + 1 by omega] at h
    exact h)
  have hwd : IntKind.i64.wrap ((lv : Int) + 1) = (lv : Int) + 1 := wrapI _ (by omega) (by omega)
  obtain ⟨ia, hia, ha0, ha1, ha2⟩ := info_parts info_strR
  obtain ⟨ib, hib, hb0, hb1, hb2⟩ := info_parts info_TreeR
  have HIa := hide hia
  have HIb := hide hib
  obtain ⟨E1, e1, hv1⟩ := h.two.one.form
  obtain ⟨E2, e2, hv2⟩ := h.two.two.form
  injection hv1 with hv1a hv1b hv1c
  injection hv2 with hv2a hv2b hv2c
  subst hv1a hv1b hv1c hv2a hv2b hv2c
  clear ih hia hib h hlay h7
  obtain ⟨wc, rfl⟩ : ∃ W, W = wr := ⟨_, rfl⟩
  obtain ⟨l2, rfl⟩ : ∃ L, L = l := ⟨_, rfl⟩
  obtain ⟨b2, hb2⟩ : ∃ b, b = false := ⟨_, rfl⟩
  rw [← hb2] at H
  have HBF := hide hb2
  clear hb2
  have HK := hide H.out
  have hK := HK.out
  have HNMc := hide (show NxJ 4 l2 [] l2 b2 from .inr ⟨rfl, rfl, rfl, HBF.out⟩)
  obtain ⟨C1, hC1⟩ : ∃ C, C = B1 := ⟨_, rfl⟩
  subst hC1
  obtain ⟨q1, hq1⟩ : ∃ C, C = d1 := ⟨_, rfl⟩
  subst hq1
  obtain ⟨us1', hus⟩ : ∃ C, C = us1 := ⟨_, rfl⟩
  subst hus
  clear H
  go_enter Tryz.func100, Tryz.ntmps100
  have t2 : wc.cell? ⟨w.heap.size + 3, 4, none⟩ = some (.slice B2 ks.length d2) := hK.two.box.cell 4
  have tr : wc.cell? ⟨w.heap.size, 0, none⟩ = some (.pointer (some ⟨g, 0, none⟩)) := hK.rb.cell 0
  have tl : wc.cell? ⟨w.heap.size + 1, 0, none⟩ = some (.int .i64 (lv : Int)) := hK.lb.cell 0
  have lq : w.heap.size + 3 < wc.heap.size := hK.two.box.lt
  have lg := hK.rd.lt
  have hidx : (ks.length : Int) < (ks.length : Int) + 1 := by omega
  clear hK
  have HM2 := hide (show ∀ b ∈ fi2, b < wc.heap.size from HK.out.two.two.new.lt)
  have HM3 := hide (show ∀ b, (Value.slice C1 ns.length q1).ownBlock = some b → b < wc.heap.size from fun b e => HK.out.two.one.lt b e)
  have HM4 := hide (show ∀ b, (Value.slice B2 ks.length d2).ownBlock = some b → b < wc.heap.size from fun b e => HK.out.two.two.lt b e)
  have HM5 := hide (show w.heap.size + 3 + 1 ≤ wc.heap.size from lq)
  have HXO := hide (fun (W : World) => show OwC W ([Tree.mk 0 0 .empty [] []].flatMap Tree.cells) [.int .i64 0, .int .i64 0, .string .empty, .slice none 0 0, .slice none 0 0] [] from by rw [List.flatMap_singleton]; exact tleaf_ow _ (by decide) (by decide) (by decide))
  have HNA := hide (fun (W : World) (h : New W fi2 (w.heap.size + 3 + 1)) => show New W (fi2 ++ []) (w.heap.size + 3 + 1) from by rw [List.append_nil]; exact h)
  have HNO := hide (show ∀ g, (Value.slice B2 ks.length d2).ownBlock = some g → g ∉ ([] : List Nat) from fun g _ hm => by cases hm)
  have HLB := hide (show ks.length + 1 ≤ 1099511627776 from by omega)
  have HKc := hide (show KT 4 w (wc.alloc (.cells #[.int .i64 0, .int .i64 0, .string .empty, .slice none 0 0, .slice none 0 0] 26)).drew g lv (.slice C1 ns.length q1) ns us1' (.slice B2 ks.length d2) ks us2 fi2 l2 b2 from (HK.out.alloc hgw (.cells #[.int .i64 0, .int .i64 0, .string .empty, .slice none 0 0, .slice none 0 0] 26)).drewN 1)
  have HRc := hide (show Row (wc.alloc (.cells #[.int .i64 0, .int .i64 0, .string .empty, .slice none 0 0, .slice none 0 0] 26)).drew wc.heap.size 26 [.int .i64 0, .int .i64 0, .string .empty, .slice none 0 0, .slice none 0 0] from (Row.new wc _ _).drewN 1)
  have HSBc := hide (show w.heap.size + 3 + 1 ≤ (wc.alloc (.cells #[.int .i64 0, .int .i64 0, .string .empty, .slice none 0 0, .slice none 0 0] 26)).drew.heap.size from by show _ ≤ (wc.alloc (.cells #[.int .i64 0, .int .i64 0, .string .empty, .slice none 0 0, .slice none 0 0] 26)).heap.size; rw [World.size_alloc]; omega)
  have lq0 : w.heap.size < wc.heap.size := by omega
  have hb0x : w.heap.size ≠ w.heap.size + 3 := by omega
  have hb1x : w.heap.size + 1 ≠ w.heap.size + 3 := by omega
  have lq1 : w.heap.size + 1 < wc.heap.size := by omega
  go_upto_region 0 with fail
  go_region_law (first | (refine step_app (by rfl) _ _ 24 (by rfl) ib _ 80 Tryz.underlying24 HIb.out hb0 hb1 hb2 rfl (by decide) Tree.cells_len (by rfl) HT7.out.two.two [Tree.mk 0 0 .empty [] []] (HXO.out _) (HNA.out _ HT7.out.two.two.new) HNO.out _ 1 1 (by rfl) rfl (SrcAt.new w6 _ _ _ _) HLB.out (by decide) HSB.out ?_; intro A' n' c' w8 hn8 hown8 hgb8; obtain ⟨en, blk, eA, -, -, -, -, -⟩ := hown8.formT (by rw [List.length_append, List.length_singleton]; omega); rw [List.length_append, List.length_singleton] at en; subst en eA; have HG8 := hide hgb8; have HN8 := hide hown8; clear hown8 hgb8 hn8; have HFIN := hide (FinT.ofA HT7.out hgw HG8.out HN8.out HO7.out HN7.out HM2.out HM3.out HM4.out HM5.out); obtain ⟨cu, cb, z0, z1, z2, z3, z4, cf, q8, f8, cl, cx⟩ := HFIN.out.app.cells; have y0 := cf (ks.length * 5); have y1 := cf (ks.length * 5 + 1); have y2 := cf (ks.length * 5 + 2); have y3 := cf (ks.length * 5 + 3); have y4 := cf (ks.length * 5 + 4); clear cf cu; have hx0 := ne_lt3T cx; have hx1 := ne_lt1T cx) | (refine step_app (by rfl) _ _ 24 (by rfl) ib _ 80 Tryz.underlying24 HIb.out hb0 hb1 hb2 rfl (by decide) Tree.cells_len (by rfl) HT6b.out.two.two [Tree.mk 0 0 .empty [] []] (HXO.out _) (HNA.out _ HT6b.out.two.two.new) HNO.out _ 1 1 (by rfl) rfl (SrcAt.ofRowT HRb.out _ _) HLB.out (by decide) HSBb.out ?_; intro A' n' c' w8 hn8 hown8 hgb8; obtain ⟨en, blk, eA, -, -, -, -, -⟩ := hown8.formT (by rw [List.length_append, List.length_singleton]; omega); rw [List.length_append, List.length_singleton] at en; subst en eA; have HG8 := hide hgb8; have HN8 := hide hown8; clear hown8 hgb8 hn8; have HFIN := hide (FinT.ofA HT6b.out hgw HG8.out HN8.out HO6.out HN6.out HM2.out HM3.out HM4.out HM5.out); obtain ⟨cu, cb, z0, z1, z2, z3, z4, cf, q8, f8, cl, cx⟩ := HFIN.out.app.cells; have y0 := cf (ks.length * 5); have y1 := cf (ks.length * 5 + 1); have y2 := cf (ks.length * 5 + 2); have y3 := cf (ks.length * 5 + 3); have y4 := cf (ks.length * 5 + 4); clear cf cu; have hx0 := ne_lt3T cx; have hx1 := ne_lt1T cx) | (refine step_app (by rfl) _ _ 24 (by rfl) ib _ 80 Tryz.underlying24 HIb.out hb0 hb1 hb2 rfl (by decide) Tree.cells_len (by rfl) HKc.out.two.two [Tree.mk 0 0 .empty [] []] (HXO.out _) (HNA.out _ HKc.out.two.two.new) HNO.out _ 1 1 (by rfl) rfl (SrcAt.ofRowT HRc.out _ _) HLB.out (by decide) HSBc.out ?_; intro A' n' c' w8 hn8 hown8 hgb8; obtain ⟨en, blk, eA, -, -, -, -, -⟩ := hown8.formT (by rw [List.length_append, List.length_singleton]; omega); rw [List.length_append, List.length_singleton] at en; subst en eA; have HG8 := hide hgb8; have HN8 := hide hown8; clear hown8 hgb8 hn8; have HAPPc := hide (HKc.out.app hgw HG8.out HN8.out); obtain ⟨cu, cb, z0, z1, z2, z3, z4, cf, q8, f8, cl, cx⟩ := HAPPc.out.cells; have y0 := cf (ks.length * 5); have y1 := cf (ks.length * 5 + 1); have y2 := cf (ks.length * 5 + 2); have y3 := cf (ks.length * 5 + 3); have y4 := cf (ks.length * 5 + 4); clear cf cu; have hx0 := ne_lt3T cx; have hx1 := ne_lt1T cx) | (go_simp; go_at_call 47; have hh := HI.out w8 l2 b2 HAPPc.out.gr HAPPc.out.rd; refine hh.mono ?_; clear hh; rintro e w6 ⟨k, us6, fq6, l6, b6, rfl, ho6, hn6, hr6, hg6, hp6, ht6, hb6⟩; have HP6 := hide hp6; have HTK6 := hide ht6; have HB6 := hide hb6; obtain ⟨F1, g1, F2, g2, j1, j2, rfl, k0, k0b, k0c, k1, k2, efq⟩ := ho6.oTree; have HO6 := hide ho6; have HFIN := hide (FinT.ofC HAPPc.out hgw hg6 hr6 ho6 hn6); clear HAPPc z0 z1 z2 z3 z4 q8 f8 cl cx cb y0 y1 y2 y3 y4; obtain ⟨cu, cb, z0, z1, z2, z3, z4, cf, q8, f8, cl, cx⟩ := HFIN.out.app.cells; have y0 := cf (ks.length * 5); have y1 := cf (ks.length * 5 + 1); have y2 := cf (ks.length * 5 + 2); have y3 := cf (ks.length * 5 + 3); have y4 := cf (ks.length * 5 + 4); clear cf cu; have hx0 := ne_lt3T cx; have hx1 := ne_lt1T cx; clear ho6 hn6 hr6 hg6 hp6 ht6 hb6 k1 k2 efq) | (go_simp; go_at_call 47; (with_reducible show Calls _ _ _ (World.drew (World.alloc wc _)) _); have hh := HI.out (wc.alloc (.cells #[.int .i64 0, .int .i64 0, .string .empty, .slice none 0 0, .slice none 0 0] 26)).drew l2 b2 HKc.out.gr HKc.out.rd; refine hh.mono ?_; clear hh; rintro e w6 ⟨k, us6, fq6, l6, b6, rfl, ho6, hn6, hr6, hg6, hp6, ht6, hb6⟩; have HP6 := hide hp6; have HTK6 := hide ht6; have HB6 := hide hb6; obtain ⟨F1, g1, F2, g2, j1, j2, rfl, k0, k0b, k0c, k1, k2, efq⟩ := ho6.oTree; have HO6 := hide ho6; have HN6 := hide (show New w6 fq6 wc.heap.size from (show New w6 fq6 (wc.alloc (.cells #[.int .i64 0, .int .i64 0, .string .empty, .slice none 0 0, .slice none 0 0] 26)).heap.size from hn6).mono (by rw [World.size_alloc]; omega)); have HT6b := hide (HKc.out.read hgw hg6 hr6); have HRb := hide (HRc.out.grown hg6 (fun e => by injection e with e; omega)); have t2c : w6.cell? ⟨w.heap.size + 3, 4, none⟩ = some (.slice B2 ks.length d2) := HT6b.out.two.box.cell 4; have lt6 := HT6b.out.two.box.lt; have HSBb := hide (show w.heap.size + 3 + 1 ≤ w6.heap.size from lt6); clear ho6 hn6 hr6 hg6 hp6 ht6 hb6 k1 k2 efq) | (go_simp; go_at_call 47; (with_reducible show Calls _ _ _ wc.drew _); have hh := HI.out wc.drew l2 b2 (HK.out.drewN 1).gr (HK.out.rd.drewN 1); refine hh.mono ?_; clear hh; rintro e w6 ⟨k, us6, fq6, l6, b6, rfl, ho6, hn6, hr6, hg6, hp6, ht6, hb6⟩; have HP6 := hide hp6; have HTK6 := hide ht6; have HB6 := hide hb6; obtain ⟨F1, g1, F2, g2, j1, j2, rfl, k0, k0b, k0c, k1, k2, efq⟩ := ho6.oTree; have HO6 := hide ho6; have HN6 := hide (show New w6 fq6 wc.heap.size from hn6); have HT6 := hide ((HK.out.drewN 1).read hgw hg6 hr6); have HT7 := hide (HT6.out.alloc hgw (.cells #[.int .i64 0, .int .i64 0, .string .empty, .slice none 0 0, .slice none 0 0] 26)); have HO7 := hide (HO6.out.alloc HN6.out.lt (.cells #[.int .i64 0, .int .i64 0, .string .empty, .slice none 0 0, .slice none 0 0] 26)); have HN7 := hide (HN6.out.alloc (.cells #[.int .i64 0, .int .i64 0, .string .empty, .slice none 0 0, .slice none 0 0] 26)); have t2c : w6.cell? ⟨w.heap.size + 3, 4, none⟩ = some (.slice B2 ks.length d2) := HT6.out.two.box.cell 4; have lt6 := HT6.out.two.box.lt; have HSB := hide (show w.heap.size + 3 + 1 ≤ (w6.alloc (.cells #[.int .i64 0, .int .i64 0, .string .empty, .slice none 0 0, .slice none 0 0] 26)).heap.size from by rw [World.size_alloc]; omega); clear ho6 hn6 hr6 hg6 hp6 ht6 hb6 k1 k2 efq))
  all_goals
    go_wp2
    go_end0
    have HX := hide (fun (W : World) (hK : KT 4 w W g lv (.slice C1 ns.length q1) ns us1' (.slice (some ⟨blk, 0, none⟩) (ks.length + 1) c') (ks ++ [k]) (us2 ++ [.int .i64 k.sort, .int .i64 k.num, .string k.text, .slice F1 k.names.length g1, .slice F2 k.kids.length g2]) (fi2 ++ fq6) l6 b6) => show PartOutT 4 w g lv ns ks l2 (.returned (.tuple #[])) W from
      ⟨[], k, l2, l6, b2, b6, C1, ns.length, q1, us1', some ⟨blk, 0, none⟩, ks.length + 1, c', _, _, rfl, by rw [List.append_nil]; exact hK, HNMc.out, HP6.out, HTK6.out, HB6.out⟩)
    refine HX.out _ ?_
    first
      | with_reducible_and_instances exact HFIN.out.done hgw
      | with_reducible_and_instances exact HFIN.out.done2 hgw
  
end Go.Proofs.YtnaecdoeldoipaaGreatDoor
set_option linter.unusedVariables false
set_option linter.unusedSimpArgs false
namespace Go.Proofs.YtnaecdoeldoipaaGreatDoor
open Go.ChangeShapes Go.WideShapes Go.ChangeAt Go.RowKit

set_option maxRecDepth 100000 in
set_option maxHeartbeats 20000000 in
theorem partT2_any {f lv : Nat} (hlf : lv + 1 + f = 7) (hlv : 1 ≤ lv) (ih : TreeRdI f) {w wr : World} {g : Nat} (hlay : Lay w) (h7 : 5 < g) (hgw : g < w.heap.size) {B1 : Option Addr} {n1 d1 : Nat} {ns : List ByteArray} {us1 : List Value} {B2 : Option Addr} {n2 d2 : Nat} {ks : List Tree} {us2 : List Value} {fi2 : List Nat} {l : List UInt8} (h : KT 5 w wr g lv (.slice B1 n1 d1) ns us1 (.slice B2 n2 d2) ks us2 fi2 l false) (hns : ns.length ≤ 100000) (hks : ks.length ≤ 100000) :
    Calls Tryz.prog 101 #[.pointer (some ⟨w.heap.size + 3, 0, none⟩), .pointer (some ⟨w.heap.size, 0, none⟩), .pointer (some ⟨w.heap.size + 1, 0, none⟩)] wr (PartOutT 5 w g lv ns ks l) := by
  have H := hide h
  have HI := hide (fun (W : World) (l : List UInt8) (bad : Bool) (hgr : w.grownBy W (some g)) (h : RdJ W g l bad) => show Calls Tryz.prog 47 #[.pointer (some ⟨g, 0, none⟩), .int .i64 ((lv : Int) + 1)] W (TreeOutR (fun w l b => RdJ w g l b) g (lv + 1) l bad W) from by
    have h := ih l bad g (lv + 1) W (by omega) (by omega) (hlay.far hgr h7 hgw) h7 h
    rw [show ((lv + 1 : Nat) : Int) = (lv : Int) + 1 by omega] at h
    exact h)
  have hwd : IntKind.i64.wrap ((lv : Int) + 1) = (lv : Int) + 1 := wrapI _ (by omega) (by omega)
  obtain ⟨ia, hia, ha0, ha1, ha2⟩ := info_parts info_strR
  obtain ⟨ib, hib, hb0, hb1, hb2⟩ := info_parts info_TreeR
  have HIa := hide hia
  have HIb := hide hib
  obtain ⟨E1, e1, hv1⟩ := h.two.one.form
  obtain ⟨E2, e2, hv2⟩ := h.two.two.form
  injection hv1 with hv1a hv1b hv1c
  injection hv2 with hv2a hv2b hv2c
  subst hv1a hv1b hv1c hv2a hv2b hv2c
  clear ih hia hib h hlay h7
  have t1 : wr.cell? ⟨w.heap.size + 3, 3, none⟩ = some (.slice B1 ns.length d1) := H.out.two.box.cell 3
  have tr : wr.cell? ⟨w.heap.size, 0, none⟩ = some (.pointer (some ⟨g, 0, none⟩)) := H.out.rb.cell 0
  have lq : w.heap.size + 3 < wr.heap.size := H.out.two.box.lt
  have hszA : w.heap.size + 3 + 1 ≤ wr.heap.size := lq
  have lg := H.out.rd.lt
  have HNM := hide (fun (W : World) (h : RdJ W g l false) => nameJ_any h)
  go_enter Tryz.func101, Tryz.ntmps101
  go_upto_region 0 with fail
  go_cut [] from 3 to 9 (fun wx => ∃ (x : ByteArray) (l2 : List UInt8) (b2 : Bool) (C1 : Option Addr) (p1 q1 : Nat) (us1' : List Value), KT 5 w wx g lv (.slice C1 p1 q1) (ns ++ [x]) us1' (.slice B2 ks.length d2) ks us2 fi2 l2 b2 ∧ NamedJ l false x l2 b2 ∧ x.size ≤ 10000)
  case first =>
    go_region_law (first | (refine step_app (by rfl) _ _ 23 (by rfl) ia _ 16 Tryz.underlying23 HIa.out ha0 ha1 ha2 rfl (by decide) strC_len (by rfl) HT7.out.two.one [x] (HDS.out _) (by exact New.nil _ _) (fun g _ hg => by cases hg) _ 1 1 (by rfl) rfl (SrcAt.new w6 _ _ _ _) (by omega) (by decide) HSB.out ?_; intro A' n' c' w8 hn8 hown8 hgb8; have HG8 := hide hgb8; have HN8 := hide hown8; have r8 := HT7.out.two.row1 hgb8; have q8 : w8.cell? ⟨w.heap.size + 3, 3, none⟩ = some (.slice B1 ns.length d1) := r8.cell 3; have f8 : w8.frozen? ⟨w.heap.size + 3, 3, none⟩ = false := r8.frozen 3; clear hown8 hgb8 r8 hn8) | (go_simp; go_at_call 102; have hh := HNM.out wr.drew (H.out.rd.drewN 1); refine hh.mono ?_; clear hh; rintro e w6 ⟨x, l6, b6, rfl, hs6, hr6, hnm6, hg6⟩; have HNM6 := hide hnm6; have HT6 := hide ((H.out.drewN 1).read hgw hg6 hr6); have t1c : w6.cell? ⟨w.heap.size + 3, 3, none⟩ = some (.slice B1 ns.length d1) := HT6.out.two.box.cell 3; have lt6 := HT6.out.two.box.lt; have HT7 := hide (HT6.out.alloc hgw (.cells #[.string x] 9)); have HSB := hide (show w.heap.size + 3 + 1 ≤ (w6.alloc (.cells #[.string x] 9)).heap.size from by rw [World.size_alloc]; omega); have HDS := hide (fun W => show OwC W ([x].flatMap strC) [.string x] [] from ⟨[], [], ⟨rfl, show x.size ≤ maxLen by (unfold maxLen; omega), rfl⟩, rfl, rfl⟩); clear hr6 hg6 hnm6))
    all_goals
      go_wp2_with fail
      go_meet
      exact ⟨x, l6, b6, A', n', c', us1 ++ [.string x], HT7.out.put hgw (HT7.out.two.frame1 HG8.out HSB.out 3 _ (Nat.le_refl _)) (HT7.out.two.put1 HG8.out HN8.out 3 rfl (fun g hg => by cases hg)), HNM6.out, hs6⟩
  case rest =>
    obtain ⟨x, l2, b2, C1, p1, q1, us1', hK, hnm, hxs⟩ := hcut
    have HK := hide hK
    have HNMc := hide hnm
    clear hnm t1 HNM H hszA
    have t2 : wc.cell? ⟨w.heap.size + 3, 4, none⟩ = some (.slice B2 ks.length d2) := hK.two.box.cell 4
    have tr : wc.cell? ⟨w.heap.size, 0, none⟩ = some (.pointer (some ⟨g, 0, none⟩)) := hK.rb.cell 0
    have tl : wc.cell? ⟨w.heap.size + 1, 0, none⟩ = some (.int .i64 (lv : Int)) := hK.lb.cell 0
    have lq : w.heap.size + 3 < wc.heap.size := hK.two.box.lt
    have lg := hK.rd.lt
    have hidx : (ks.length : Int) < (ks.length : Int) + 1 := by omega
    clear hK
    have HM2 := hide (show ∀ b ∈ fi2, b < wc.heap.size from HK.out.two.two.new.lt)
    have HM3 := hide (show ∀ b, (Value.slice C1 p1 q1).ownBlock = some b → b < wc.heap.size from fun b e => HK.out.two.one.lt b e)
    have HM4 := hide (show ∀ b, (Value.slice B2 ks.length d2).ownBlock = some b → b < wc.heap.size from fun b e => HK.out.two.two.lt b e)
    have HM5 := hide (show w.heap.size + 3 + 1 ≤ wc.heap.size from lq)
    have HXO := hide (fun (W : World) => show OwC W ([Tree.mk 0 0 .empty [] []].flatMap Tree.cells) [.int .i64 0, .int .i64 0, .string .empty, .slice none 0 0, .slice none 0 0] [] from by rw [List.flatMap_singleton]; exact tleaf_ow _ (by decide) (by decide) (by decide))
    have HNA := hide (fun (W : World) (h : New W fi2 (w.heap.size + 3 + 1)) => show New W (fi2 ++ []) (w.heap.size + 3 + 1) from by rw [List.append_nil]; exact h)
    have HNO := hide (show ∀ g, (Value.slice B2 ks.length d2).ownBlock = some g → g ∉ ([] : List Nat) from fun g _ hm => by cases hm)
    have HLB := hide (show ks.length + 1 ≤ 1099511627776 from by omega)
    have HKc := hide (show KT 5 w (wc.alloc (.cells #[.int .i64 0, .int .i64 0, .string .empty, .slice none 0 0, .slice none 0 0] 26)).drew g lv (.slice C1 p1 q1) (ns ++ [x]) us1' (.slice B2 ks.length d2) ks us2 fi2 l2 b2 from (HK.out.alloc hgw (.cells #[.int .i64 0, .int .i64 0, .string .empty, .slice none 0 0, .slice none 0 0] 26)).drewN 1)
    have HRc := hide (show Row (wc.alloc (.cells #[.int .i64 0, .int .i64 0, .string .empty, .slice none 0 0, .slice none 0 0] 26)).drew wc.heap.size 26 [.int .i64 0, .int .i64 0, .string .empty, .slice none 0 0, .slice none 0 0] from (Row.new wc _ _).drewN 1)
    have HSBc := hide (show w.heap.size + 3 + 1 ≤ (wc.alloc (.cells #[.int .i64 0, .int .i64 0, .string .empty, .slice none 0 0, .slice none 0 0] 26)).drew.heap.size from by show _ ≤ (wc.alloc (.cells #[.int .i64 0, .int .i64 0, .string .empty, .slice none 0 0, .slice none 0 0] 26)).heap.size; rw [World.size_alloc]; omega)
    have lq0 : w.heap.size < wc.heap.size := by omega
    have hb0x : w.heap.size ≠ w.heap.size + 3 := by omega
    have hb1x : w.heap.size + 1 ≠ w.heap.size + 3 := by omega
    have lq1 : w.heap.size + 1 < wc.heap.size := by omega
    go_wp2
    go_region_law (first | (refine step_app (by rfl) _ _ 24 (by rfl) ib _ 80 Tryz.underlying24 HIb.out hb0 hb1 hb2 rfl (by decide) Tree.cells_len (by rfl) HT7.out.two.two [Tree.mk 0 0 .empty [] []] (HXO.out _) (HNA.out _ HT7.out.two.two.new) HNO.out _ 1 1 (by rfl) rfl (SrcAt.new w6 _ _ _ _) HLB.out (by decide) HSB.out ?_; intro A' n' c' w8 hn8 hown8 hgb8; obtain ⟨en, blk, eA, -, -, -, -, -⟩ := hown8.formT (by rw [List.length_append, List.length_singleton]; omega); rw [List.length_append, List.length_singleton] at en; subst en eA; have HG8 := hide hgb8; have HN8 := hide hown8; clear hown8 hgb8 hn8; have HFIN := hide (FinT.ofA HT7.out hgw HG8.out HN8.out HO7.out HN7.out HM2.out HM3.out HM4.out HM5.out); obtain ⟨cu, cb, z0, z1, z2, z3, z4, cf, q8, f8, cl, cx⟩ := HFIN.out.app.cells; have y0 := cf (ks.length * 5); have y1 := cf (ks.length * 5 + 1); have y2 := cf (ks.length * 5 + 2); have y3 := cf (ks.length * 5 + 3); have y4 := cf (ks.length * 5 + 4); clear cf cu; have hx0 := ne_lt3T cx; have hx1 := ne_lt1T cx) | (refine step_app (by rfl) _ _ 24 (by rfl) ib _ 80 Tryz.underlying24 HIb.out hb0 hb1 hb2 rfl (by decide) Tree.cells_len (by rfl) HT6b.out.two.two [Tree.mk 0 0 .empty [] []] (HXO.out _) (HNA.out _ HT6b.out.two.two.new) HNO.out _ 1 1 (by rfl) rfl (SrcAt.ofRowT HRb.out _ _) HLB.out (by decide) HSBb.out ?_; intro A' n' c' w8 hn8 hown8 hgb8; obtain ⟨en, blk, eA, -, -, -, -, -⟩ := hown8.formT (by rw [List.length_append, List.length_singleton]; omega); rw [List.length_append, List.length_singleton] at en; subst en eA; have HG8 := hide hgb8; have HN8 := hide hown8; clear hown8 hgb8 hn8; have HFIN := hide (FinT.ofA HT6b.out hgw HG8.out HN8.out HO6.out HN6.out HM2.out HM3.out HM4.out HM5.out); obtain ⟨cu, cb, z0, z1, z2, z3, z4, cf, q8, f8, cl, cx⟩ := HFIN.out.app.cells; have y0 := cf (ks.length * 5); have y1 := cf (ks.length * 5 + 1); have y2 := cf (ks.length * 5 + 2); have y3 := cf (ks.length * 5 + 3); have y4 := cf (ks.length * 5 + 4); clear cf cu; have hx0 := ne_lt3T cx; have hx1 := ne_lt1T cx) | (refine step_app (by rfl) _ _ 24 (by rfl) ib _ 80 Tryz.underlying24 HIb.out hb0 hb1 hb2 rfl (by decide) Tree.cells_len (by rfl) HKc.out.two.two [Tree.mk 0 0 .empty [] []] (HXO.out _) (HNA.out _ HKc.out.two.two.new) HNO.out _ 1 1 (by rfl) rfl (SrcAt.ofRowT HRc.out _ _) HLB.out (by decide) HSBc.out ?_; intro A' n' c' w8 hn8 hown8 hgb8; obtain ⟨en, blk, eA, -, -, -, -, -⟩ := hown8.formT (by rw [List.length_append, List.length_singleton]; omega); rw [List.length_append, List.length_singleton] at en; subst en eA; have HG8 := hide hgb8; have HN8 := hide hown8; clear hown8 hgb8 hn8; have HAPPc := hide (HKc.out.app hgw HG8.out HN8.out); obtain ⟨cu, cb, z0, z1, z2, z3, z4, cf, q8, f8, cl, cx⟩ := HAPPc.out.cells; have y0 := cf (ks.length * 5); have y1 := cf (ks.length * 5 + 1); have y2 := cf (ks.length * 5 + 2); have y3 := cf (ks.length * 5 + 3); have y4 := cf (ks.length * 5 + 4); clear cf cu; have hx0 := ne_lt3T cx; have hx1 := ne_lt1T cx) | (go_simp; go_at_call 47; have hh := HI.out w8 l2 b2 HAPPc.out.gr HAPPc.out.rd; refine hh.mono ?_; clear hh; rintro e w6 ⟨k, us6, fq6, l6, b6, rfl, ho6, hn6, hr6, hg6, hp6, ht6, hb6⟩; have HP6 := hide hp6; have HTK6 := hide ht6; have HB6 := hide hb6; obtain ⟨F1, g1, F2, g2, j1, j2, rfl, k0, k0b, k0c, k1, k2, efq⟩ := ho6.oTree; have HO6 := hide ho6; have HFIN := hide (FinT.ofC HAPPc.out hgw hg6 hr6 ho6 hn6); clear HAPPc z0 z1 z2 z3 z4 q8 f8 cl cx cb y0 y1 y2 y3 y4; obtain ⟨cu, cb, z0, z1, z2, z3, z4, cf, q8, f8, cl, cx⟩ := HFIN.out.app.cells; have y0 := cf (ks.length * 5); have y1 := cf (ks.length * 5 + 1); have y2 := cf (ks.length * 5 + 2); have y3 := cf (ks.length * 5 + 3); have y4 := cf (ks.length * 5 + 4); clear cf cu; have hx0 := ne_lt3T cx; have hx1 := ne_lt1T cx; clear ho6 hn6 hr6 hg6 hp6 ht6 hb6 k1 k2 efq) | (go_simp; go_at_call 47; (with_reducible show Calls _ _ _ (World.drew (World.alloc wc _)) _); have hh := HI.out (wc.alloc (.cells #[.int .i64 0, .int .i64 0, .string .empty, .slice none 0 0, .slice none 0 0] 26)).drew l2 b2 HKc.out.gr HKc.out.rd; refine hh.mono ?_; clear hh; rintro e w6 ⟨k, us6, fq6, l6, b6, rfl, ho6, hn6, hr6, hg6, hp6, ht6, hb6⟩; have HP6 := hide hp6; have HTK6 := hide ht6; have HB6 := hide hb6; obtain ⟨F1, g1, F2, g2, j1, j2, rfl, k0, k0b, k0c, k1, k2, efq⟩ := ho6.oTree; have HO6 := hide ho6; have HN6 := hide (show New w6 fq6 wc.heap.size from (show New w6 fq6 (wc.alloc (.cells #[.int .i64 0, .int .i64 0, .string .empty, .slice none 0 0, .slice none 0 0] 26)).heap.size from hn6).mono (by rw [World.size_alloc]; omega)); have HT6b := hide (HKc.out.read hgw hg6 hr6); have HRb := hide (HRc.out.grown hg6 (fun e => by injection e with e; omega)); have t2c : w6.cell? ⟨w.heap.size + 3, 4, none⟩ = some (.slice B2 ks.length d2) := HT6b.out.two.box.cell 4; have lt6 := HT6b.out.two.box.lt; have HSBb := hide (show w.heap.size + 3 + 1 ≤ w6.heap.size from lt6); clear ho6 hn6 hr6 hg6 hp6 ht6 hb6 k1 k2 efq) | (go_simp; go_at_call 47; (with_reducible show Calls _ _ _ wc.drew _); have hh := HI.out wc.drew l2 b2 (HK.out.drewN 1).gr (HK.out.rd.drewN 1); refine hh.mono ?_; clear hh; rintro e w6 ⟨k, us6, fq6, l6, b6, rfl, ho6, hn6, hr6, hg6, hp6, ht6, hb6⟩; have HP6 := hide hp6; have HTK6 := hide ht6; have HB6 := hide hb6; obtain ⟨F1, g1, F2, g2, j1, j2, rfl, k0, k0b, k0c, k1, k2, efq⟩ := ho6.oTree; have HO6 := hide ho6; have HN6 := hide (show New w6 fq6 wc.heap.size from hn6); have HT6 := hide ((HK.out.drewN 1).read hgw hg6 hr6); have HT7 := hide (HT6.out.alloc hgw (.cells #[.int .i64 0, .int .i64 0, .string .empty, .slice none 0 0, .slice none 0 0] 26)); have HO7 := hide (HO6.out.alloc HN6.out.lt (.cells #[.int .i64 0, .int .i64 0, .string .empty, .slice none 0 0, .slice none 0 0] 26)); have HN7 := hide (HN6.out.alloc (.cells #[.int .i64 0, .int .i64 0, .string .empty, .slice none 0 0, .slice none 0 0] 26)); have t2c : w6.cell? ⟨w.heap.size + 3, 4, none⟩ = some (.slice B2 ks.length d2) := HT6.out.two.box.cell 4; have lt6 := HT6.out.two.box.lt; have HSB := hide (show w.heap.size + 3 + 1 ≤ (w6.alloc (.cells #[.int .i64 0, .int .i64 0, .string .empty, .slice none 0 0, .slice none 0 0] 26)).heap.size from by rw [World.size_alloc]; omega); clear ho6 hn6 hr6 hg6 hp6 ht6 hb6 k1 k2 efq))
    all_goals
      go_wp2
      go_end0
      have HX := hide (fun (W : World) (hK : KT 5 w W g lv (.slice C1 p1 q1) (ns ++ [x]) us1' (.slice (some ⟨blk, 0, none⟩) (ks.length + 1) c') (ks ++ [k]) (us2 ++ [.int .i64 k.sort, .int .i64 k.num, .string k.text, .slice F1 k.names.length g1, .slice F2 k.kids.length g2]) (fi2 ++ fq6) l6 b6) => show PartOutT 5 w g lv ns ks l (.returned (.tuple #[])) W from
        ⟨[x], k, l2, l6, b2, b6, C1, p1, q1, us1', some ⟨blk, 0, none⟩, ks.length + 1, c', _, _, rfl, hK, .inl ⟨rfl, x, rfl, hxs, HNMc.out⟩, HP6.out, HTK6.out, HB6.out⟩)
      refine HX.out _ ?_
      first
        | with_reducible_and_instances exact HFIN.out.done hgw
        | with_reducible_and_instances exact HFIN.out.done2 hgw
    
end Go.Proofs.YtnaecdoeldoipaaGreatDoor
