/-
  The reference's reader of trees: many. The reference's reader of trees: tree.
-/
import Derived.Deep.RegionHeld3
import Derived.Deep.RegionLaw
import Derived.Deep.CutRange
import Derived.Deep.DeepCutAuto
import Derived.Test.YtnaecdoeldoipaaGreatDoorKTrT
import Derived.Test.YtnaecdoeldoipaaGreatDoorKTrS2
set_option linter.unusedVariables false
set_option linter.unusedSimpArgs false
namespace Go.Proofs.YtnaecdoeldoipaaGreatDoor
open Go.ChangeShapes Go.WideShapes Go.ChangeAt Go.RowKit

set_option maxRecDepth 100000 in
set_option maxHeartbeats 4000000 in
theorem many4_of {f' : Nat} (ih : TreeRdS f') {s : ByteArray} {l1 : List UInt8} {g lv : Nat} {w : World} (hlf : lv + (f' + 1) = 7) (hlv : 1 ≤ lv) (h : RdK w g s 0 (91 :: l1) false) :
    Calls Tryz.prog 106 #[.pointer (some ⟨g, 0, none⟩), .int .i64 4, .int .u8 93, .int .i64 (lv : Int)] w (TreeOutR (fun w l b => RdK w g s (f' + 1) l b) g lv (91 :: l1) false w) := by
  have hgw := h.lt
  have hd6 : lv ≤ 6 := by omega
  have hend : endOf 4 = 93 := rfl
  have HEND := hide (fun (W : World) (k : Tree) (vs : List Value) (fq : List Nat) (l' : List UInt8) (bad' : Bool) (ho : OwC W k.cells vs fq) (hn : New W fq (w.heap.size + 1)) (hr : RdK W g s (f' + 1) l' bad') (hg : w.grownBy W (some g)) (hp : Paid lv (91 :: l1) k.bulk l' bad') (ht : TakesT lv (91 :: l1) false k l' bad') (hbb : bad' = false → (false : Bool) = false) =>
    show TreeOutR (fun w l b => RdK w g s (f' + 1) l b) g lv (91 :: l1) false w (.returned (.agg vs.toArray)) (putN W w.heap.size 0 vs) from by
      have hgr := setN_grown vs 0 (grown_refl W (some w.heap.size))
      have hno : w.heap.size ∉ fq := hn.out (by omega)
      exact ⟨k, vs, fq, l', bad', rfl, ho.grown hgr hn.lt hno, (hn.grown hgr (fun b e => by injection e with e; subst e; exact hno)).mono (by omega), hr.low (fin_lowR hg vs) hgw, fin_grownR hg vs, hp, ht, hbb⟩)
  have HIK := hide (fun (W : World) (l : List UInt8) (bad : Bool) (h : RdK W g s 0 l bad) => show Calls Tryz.prog 52 #[.pointer (some ⟨g, 0, none⟩), .int .i64 ((lv : Int) + 1)] W (TreeOutR (fun w l b => RdK w g s f' l b) g (lv + 1) l bad W) from by
    have h := ih s l bad g (lv + 1) W (by omega) (by omega) h
    rw [show ((lv + 1 : Nat) : Int) = (lv : Int) + 1 by omega] at h
    exact h)
  obtain ⟨ia, hia, ha0, ha1, ha2⟩ := info_parts info_strR
  obtain ⟨ib, hib, hb0, hb1, hb2⟩ := info_parts info_TreeR
  have HIa := hide hia
  have HIb := hide hib
  have HR0 := hide h
  clear hia hib h ih
  go_enter Tryz.func106, Tryz.ntmps106
  go_upto_region 1 with fail
  generalize hw1 : w.alloc _ = w1
  have hbZ : Below w.heap.size w w1 := by rw [← hw1]; exact (Below.refl _ _).alloc (Nat.le_refl _) _
  have HZ1 := hide (show Row w1 w.heap.size 26 zTree from by rw [← hw1]; exact Row.new w _ _)
  have HR1 := hide (HR0.out.below hbZ)
  have HG1 := hide (grownBy_below hbZ (some g))
  clear hw1 hbZ HR0
  go_upto_region 2 with fail
  obtain ⟨b, hb⟩ : ∃ b, b = w1.heap.size := ⟨_, rfl⟩
  have hbw : w.heap.size < b := by rw [hb]; exact HZ1.out.lt
  generalize hw2 : w1.alloc _ = w2
  have hbA : Below w1.heap.size w1 w2 := by rw [← hw2]; exact (Below.refl _ _).alloc (Nat.le_refl _) _
  have HT2 := hide (show TreeAtR w2 b 4 (.slice none 0 0) [] [] (.slice none 0 0) [] [] [] from ⟨by rw [← hw2, hb]; exact Row.new w1 _ _, OwS.nil _ _ _ _ _, OwS.nil _ _ _ _ _, Nat.lt_succ_self _, fun g h => (by cases h), fun g h => (by cases h), fun g h => (by cases h), fun g h => (by cases h)⟩)
  have HR2 := hide (HR1.out.below hbA)
  have HG2 := hide (only_lowR HG1.out hbA (Nat.le_of_lt HZ1.out.lt))
  have HZ2 := hide (HZ1.out.below hbA HZ1.out.lt)
  clear hw2 hbA HR1 HG1 HZ1
  (try simp only [← hb])
  clear hb
  obtain ⟨np, x1, x1f, xb, hnx⟩ := HR2.out.next (fun _ h => by cases h)
  have hgrx : w2.grownBy (w2.setCell ⟨g, 1, none⟩ (.int .i64 ((np : Int) + 1))) (some g) := grownBy_setCell w2 ⟨g, 1, none⟩ _
  have HRx := hide (show RdK (w2.setCell ⟨g, 1, none⟩ (.int .i64 ((np : Int) + 1))) g s 1 l1 false from hnx)
  have HTx := hide (HT2.out.farR hgrx (by omega))
  have HZx := hide (HZ2.out.grown hgrx (fun e => by injection e with e; omega))
  have HGx := hide (only_trans HG2.out hgrx)
  have lg2 := HR2.out.lt
  clear hnx hgrx HR2 HT2 HZ2 HG2
  go_upto_region 3 with fail
  clear x1 x1f xb lg2
  generalize (World.setCell _ _ _) = w4 at HRx HTx HZx HGx ⊢
  have HR4 := hide (HRx.out.zero.mono (Nat.zero_le f'))
  have HT4 := HTx
  have HZ4 := HZx
  have HG4 := HGx
  have hl3b : l1.length ≤ 10000 := HRx.out.len
  clear HRx HTx HZx HGx
  go_loopw [] (fun wr => ∃ (ks : List Tree) (lx : List UInt8) (bx : Bool) (B2 : Option Addr) (m2 d2 : Nat) (us2 : List Value) (fi2 : List Nat), TreeAtR wr b 4 (.slice none 0 0) [] [] (.slice B2 m2 d2) ks us2 fi2 ∧ RdK wr g s f' lx bx ∧ PaidF lv l1 (bulkStrs [] + ks.length + Tree.bulkS ks) lx bx ∧ PartsAt 4 lv l1 ks.isEmpty bx [] ks lx ∧ w.grownBy wr (some g) ∧ Row wr w.heap.size 26 zTree) (fun wr => rdMeas wr g s.size)
  case atStart => exact ⟨[], l1, false, none, 0, 0, [], [], HT4.out, HR4.out, PaidF.start _ _ _, PartsAt.start _ _ _, HG4.out, HZ4.out⟩
  case round =>
    obtain ⟨ks, lx, bx, B2, m2, d2, us2, fi2, hT, hR, hP, hF, hG, hZ⟩ := hrel
    have HT := hide hT
    have HR := hide hR
    have HP := hide hP
    have HF := hide hF
    have HG := hide hG
    have HZ := hide hZ
    have HM := hide hR.meas
    obtain ⟨hbc, hbf⟩ := hR.cells
    have lgr := hR.lt
    have lq := hT.box.lt
    clear hT hR hP hF hG hZ HT4 HR4 HG4 HZ4
    rcases bx with _ | _
    rotate_left
    · obtain ⟨wl, rfl⟩ : ∃ W, W = wr := ⟨_, rfl⟩
      obtain ⟨np, x1, x1f, xb, hnx⟩ := HR.out.next (fun h => by cases h)
      have HRx := hide hnx
      have hgrx : wl.grownBy (wl.setCell ⟨g, 1, none⟩ (.int .i64 ((np : Int) + 1))) (some g) := grownBy_setCell wl ⟨g, 1, none⟩ _
      have HTx := hide (HT.out.farR hgrx (by omega))
      have HZx := hide (HZ.out.grown hgrx (fun e => by injection e with e; omega))
      have HGx := hide (only_trans HG.out hgrx)
      clear hnx hgrx
      have z0 := HZx.out.cell 0
      have y0 := HZx.out.frozen 0
      have z1 := HZx.out.cell 1
      have y1 := HZx.out.frozen 1
      have z2 := HZx.out.cell 2
      have y2 := HZx.out.frozen 2
      have z3 := HZx.out.cell 3
      have y3 := HZx.out.frozen 3
      have z4 := HZx.out.cell 4
      have y4 := HZx.out.frozen 4
      have lz := HZx.out.lt
      have q0 := HTx.out.box.cell 0
      have q1 := HTx.out.box.cell 1
      have q2 := HTx.out.box.cell 2
      have q3 := HTx.out.box.cell 3
      have q4 := HTx.out.box.cell 4
      have lqx := HTx.out.box.lt
      go_wp2
      obtain ⟨fq, ho, hnw⟩ := tform_ow HTx.out (by decide)
      refine bodyPost_ret (ret_row rfl _ _ w.heap.size 26 (treeMkR 4 (.slice none 0 0) (.slice B2 m2 d2)) (HZx.out.setAll (treeMkR 4 (.slice none 0 0) (.slice B2 m2 d2)) rfl) _ rfl Tryz.underlying26 rfl (by kernel_rfl)) rfl ?_
      exact HEND.out _ (.mk 4 0 .empty [] ks) _ fq (lx.drop 1) true ho (hnw.mono (by omega)) HRx.out HGx.out (by rw [Tree.bulk_mk, show (ByteArray.empty).size = 0 from rfl, Nat.zero_add]; exact PaidF.done rfl HP.out (by rw [List.length_drop]; omega) (fun h => by cases h)) (TakesT.list HF.out rfl (fun h => by cases h)) (fun _ => by first | rfl | trivial)
    have HLK := hide (look1_any HR.out (by omega))
    go_wp2_with fail
    refine HLK.out.mono ?_
    rintro e wl ⟨rfl, q, hwl⟩
    have HT := hide (show TreeAtR wl b 4 (.slice none 0 0) [] [] (.slice B2 m2 d2) ks us2 fi2 from by rw [hwl]; exact HT.out.drewN q)
    have HR := hide (show RdK wl g s f' lx false from by rw [hwl]; exact HR.out.drewN q)
    have HZ := hide (show Row wl w.heap.size 26 zTree from by rw [hwl]; exact HZ.out.drewN q)
    have HG := hide (show w.grownBy wl (some g) from by rw [hwl]; exact only_drewN HG.out q)
    obtain ⟨hbc, hbf⟩ := HR.out.cells
    have lgr := HR.out.lt
    have lq := HT.out.box.lt
    obtain ⟨c, hc⟩ : ∃ c, lx.headD 0 = c := ⟨_, rfl⟩
    rw [hc]
    have HCX := hide hc
    have hcl := c.toNat_lt
    clear hwl hc HLK
    by_cases ce : c = 93
    · have ci : (c.toNat : Int) = 93 := by subst ce; rfl
      have hlx : ∃ r, lx = 93 :: r := by
        match lx, HCX.out with
        | [], h => subst ce; exact absurd h (by decide)
        | a :: r, h => exact ⟨r, by rw [← ce, ← h]; rfl⟩
      obtain ⟨r, rfl⟩ := hlx
      clear ce
      rw [ci]
      obtain ⟨np, x1, x1f, xb, hnx⟩ := HR.out.next (fun _ h => by cases h)
      have HRx := hide hnx
      have hgrx : wl.grownBy (wl.setCell ⟨g, 1, none⟩ (.int .i64 ((np : Int) + 1))) (some g) := grownBy_setCell wl ⟨g, 1, none⟩ _
      have HTx := hide (HT.out.farR hgrx (by omega))
      have HZx := hide (HZ.out.grown hgrx (fun e => by injection e with e; omega))
      have HGx := hide (only_trans HG.out hgrx)
      clear hnx hgrx
      have z0 := HZx.out.cell 0
      have y0 := HZx.out.frozen 0
      have z1 := HZx.out.cell 1
      have y1 := HZx.out.frozen 1
      have z2 := HZx.out.cell 2
      have y2 := HZx.out.frozen 2
      have z3 := HZx.out.cell 3
      have y3 := HZx.out.frozen 3
      have z4 := HZx.out.cell 4
      have y4 := HZx.out.frozen 4
      have lz := HZx.out.lt
      have q0 := HTx.out.box.cell 0
      have q1 := HTx.out.box.cell 1
      have q2 := HTx.out.box.cell 2
      have q3 := HTx.out.box.cell 3
      have q4 := HTx.out.box.cell 4
      have lqx := HTx.out.box.lt
      go_wp2
      obtain ⟨fq, ho, hnw⟩ := tform_ow HTx.out (by decide)
      refine bodyPost_ret (ret_row rfl _ _ w.heap.size 26 (treeMkR 4 (.slice none 0 0) (.slice B2 m2 d2)) (HZx.out.setAll (treeMkR 4 (.slice none 0 0) (.slice B2 m2 d2)) rfl) _ rfl Tryz.underlying26 rfl (by kernel_rfl)) rfl ?_
      exact HEND.out _ (.mk 4 0 .empty [] ks) _ fq ((93 :: r).drop 1) false ho (hnw.mono (by omega)) HRx.out HGx.out (by rw [Tree.bulk_mk, show (ByteArray.empty).size = 0 from rfl, Nat.zero_add]; exact PaidF.done rfl HP.out (by rw [List.length_drop]; omega) (fun _ => by simp)) (TakesT.list HF.out rfl (fun _ => rfl)) (fun _ => by first | rfl | trivial)
    have ci : ¬ ((c.toNat : Int) = 93) := fun e => ce (UInt8.toNat_inj.1 (show c.toNat = 93 from by omega))
    have cb : ((c.toNat : Int) != 93) = true := by simpa using ci
    have HNE := hide (show ∀ r, lx ≠ endOf 4 :: r from fun r e => ce (by have h := HCX.out; rw [e] at h; exact h.symm))
    have HR0 := hide HR.out.zero
    clear ce

    obtain ⟨E2, e2, hv2⟩ := HT.out.two.form
    injection hv2 with hv2a hv2b hv2c
    subst hv2a hv2b hv2c
    have t2 : wl.cell? ⟨b, 4, none⟩ = some (.slice B2 ks.length d2) := HT.out.box.cell 4
    by_cases hk0 : ks.length = 0
    case' pos =>
      have hks : ks = [] := List.eq_nil_of_length_eq_zero hk0
      have hki : ¬ ((0 : Int) < (ks.length : Int)) := by omega
      obtain ⟨ok1, hok1⟩ : ∃ b, b = true := ⟨_, rfl⟩
      obtain ⟨l2, hl2⟩ : ∃ l2, l2 = lx := ⟨_, rfl⟩
      have H1 := hide (show (ks.isEmpty = true ∧ l2 = lx ∧ ok1 = true) ∨ (ks.isEmpty = false ∧ Eaten [44] lx ok1 l2) from .inl ⟨by rw [hks]; rfl, hl2, hok1⟩)
      have H2L := hide (show l2.length ≤ lx.length from by rw [hl2]; exact Nat.le_refl _)
      have HR5 := hide (show RdK wl g s 0 l2 (!ok1) from by rw [hl2, hok1]; exact HR0.out)
      have HT5 := HT
      have HG5 := HG
      have HZ5 := HZ
      clear hks hok1 hl2 HR HR0 HT HG HZ
      go_upto_region 9 with fail
      obtain ⟨w5, rfl⟩ : ∃ W, W = wl := ⟨_, rfl⟩
      clear hk0 hki t2
      skip
    case' neg =>
      have hki : (0 : Int) < (ks.length : Int) := by omega
      have HEQ := hide (eat1_any HR0.out (by omega) ⟨#[44]⟩ (by decide) (by decide))
      go_wp2_with fail
      refine HEQ.out.mono ?_
      rintro e w5 ⟨ok1, l2, rfl, h5, he5, hg5⟩
      rw [Bool.false_or] at h5
      have H1 := hide (show (ks.isEmpty = true ∧ l2 = lx ∧ ok1 = true) ∨ (ks.isEmpty = false ∧ Eaten [44] lx ok1 l2) from .inr ⟨by cases ks with | nil => exact absurd rfl hk0 | cons a b => rfl, he5⟩)
      have H2L := hide he5.le
      have HT5 := hide (HT.out.farR hg5 (by omega))
      have HR5 := hide h5
      have HG5 := hide (only_trans HG.out hg5)
      have HZ5 := hide (HZ.out.grown hg5 (fun e => by injection e with e; omega))
      go_upto_region 9 with fail
      clear hk0 hki h5 he5 hg5 HEQ t2 HT HR HZ HG HR0
      skip
    all_goals
      have hlk5 : ks.length ≤ 100000 := by have h := HP.out.2.2 rfl; have hl := HP.out.1; have h3 := hl3b; omega
      obtain ⟨w7, rfl⟩ : ∃ W, W = w5 := ⟨_, rfl⟩
      obtain ⟨l7, rfl⟩ : ∃ L, L = l2 := ⟨_, rfl⟩
      have HTd := HT5
      have HGd := HG5
      have HZd := HZ5
      obtain ⟨b4, hb4e⟩ : ∃ b4, b4 = !ok1 := ⟨_, rfl⟩
      have HRd := HR5
      rw [← hb4e] at HRd
      have HH2 := hide (show Ahead 4 [] l7 l7 ok1 b4 from .inr ⟨rfl, rfl, rfl, fun e => by rw [hb4e, e]; rfl⟩)
      have HMM := hide (show l7.length ≤ lx.length ∧ 0 ≤ 4 * (lx.length - l7.length) + 1 from ⟨H2L.out, Nat.zero_le _⟩)
      have HMB := hide (show b4 = false → 0 ≤ 4 * (lx.length - l7.length) from fun _ => Nat.zero_le _)
      have t2 : w7.cell? ⟨b, 4, none⟩ = some (.slice B2 ks.length d2) := HTd.out.box.cell 4
      have hszA : b + 1 ≤ w7.heap.size := HTd.out.box.lt
      have lg7 := HRd.out.lt
      have lq5 := hszA
      clear HT5 HG5 HZ5 HR5 hb4e
      have hwd : IntKind.i64.wrap ((lv : Int) + 1) = (lv : Int) + 1 := wrapI _ (by omega) (by omega)
      go_wp2_with fail
      go_region_law (first | (refine step_app (by rfl) _ _ 24 (by rfl) ib _ 80 Tryz.underlying24 HIb.out hb0 hb1 hb2 rfl (by decide) Tree.cells_len (by rfl) HT7.out.two [k] HXO.out HNA.out HNO.out _ 1 1 (by rfl) rfl (SrcAt.new w6 _ _ _ _) HLB.out (by decide) HSB.out ?_; intro A' n' c' w8 hn8 hown8 hgb8; have HG8 := hide hgb8; have HN8 := hide hown8; have r8 := HT7.out.row2 hgb8; have q8 : w8.cell? ⟨b, 4, none⟩ = some (.slice B2 ks.length d2) := r8.cell 4; have f8 : w8.frozen? ⟨b, 4, none⟩ = false := r8.frozen 4; have HNN8 := hide hn8; clear hown8 hgb8 r8 hn8) | (go_simp; go_at_call 52; have hh := HIK.out w7.drew _ _ (HRd.out.drewN 1); refine hh.mono ?_; clear hh; rintro e w6 ⟨k, us6, fq6, l6, b6, rfl, ho6, hn6, hr6, hg6, hp6, htk6, hb6⟩; have HO6 := hide ho6; have HN6 := hide hn6; have HR6 := hide hr6; have HG6 := hide (only_trans (only_drewN HGd.out 1) hg6); have HP6 := hide hp6; have HTK6 := hide htk6; have HB6 := hide hb6; have HZ6 := hide ((HZd.out.drewN 1).grown hg6 (fun e => by injection e with e; omega)); have hs6 : w7.heap.size ≤ w6.heap.size := hg6.size; obtain ⟨E1, e1, E2, e2, g1, g2, rfl, k0, k1, k2, k3, k4, efq⟩ := ho6.oTree; have HT6 := hide ((HTd.out.drewN 1).farR hg6 (by omega)); have t2c : w6.cell? ⟨b, 4, none⟩ = some (.slice B2 ks.length d2) := HT6.out.box.cell 4; have lt6 := HT6.out.box.lt; have HT7 := hide (HT6.out.alloc (.cells #[.int .i64 k.sort, .int .i64 k.num, .string k.text, .slice E1 k.names.length e1, .slice E2 k.kids.length e2] 26)); have HO7 := hide (HO6.out.alloc HN6.out.lt (.cells #[.int .i64 k.sort, .int .i64 k.num, .string k.text, .slice E1 k.names.length e1, .slice E2 k.kids.length e2] 26)); have HN7 := hide (HN6.out.alloc (.cells #[.int .i64 k.sort, .int .i64 k.num, .string k.text, .slice E1 k.names.length e1, .slice E2 k.kids.length e2] 26)); have hn6' : New w6 fq6 w7.heap.size := hn6; have HN6 := hide hn6'; have HNA := hide (show New (w6.alloc (.cells #[.int .i64 k.sort, .int .i64 k.num, .string k.text, .slice E1 k.names.length e1, .slice E2 k.kids.length e2] 26)) (fi2 ++ fq6) (b + 1) from New.app HT7.out.two.new (HN6.out.alloc _) HTd.out.two.new.lt hszA); have HXO := hide (show OwC (w6.alloc (.cells #[.int .i64 k.sort, .int .i64 k.num, .string k.text, .slice E1 k.names.length e1, .slice E2 k.kids.length e2] 26)) ([k].flatMap Tree.cells) [.int .i64 k.sort, .int .i64 k.num, .string k.text, .slice E1 k.names.length e1, .slice E2 k.kids.length e2] fq6 from by rw [List.flatMap_singleton]; exact HO7.out); have HNO := hide (show ∀ g, (Value.slice B2 ks.length d2).ownBlock = some g → g ∉ fq6 from fun g e hm => absurd (HTd.out.two.lt g e) (Nat.not_lt.2 (HN6.out.fr g hm).1)); have HLB := hide (show ks.length + 1 ≤ 1099511627776 from by omega); have HSB := hide (show b + 1 ≤ (w6.alloc (.cells #[.int .i64 k.sort, .int .i64 k.num, .string k.text, .slice E1 k.names.length e1, .slice E2 k.kids.length e2] 26)).heap.size from by rw [World.size_alloc]; omega); clear ho6 hn6 hn6' hr6 hg6 hp6 htk6 hb6 k0 k1 k2 k3 k4 efq HN7))
      all_goals
        have hfr : ∀ u, Below w.heap.size w6 (w8.setCell ⟨b, 4, none⟩ u) := fun u => ((Below.refl w.heap.size w6).alloc (by omega) _).trans (HT7.out.frame2 HG8.out (by rw [World.size_alloc]; omega) 4 u (by omega))
        have HF9 := hide (fun W (hW : W = w8.setCell ⟨b, 4, none⟩ (.slice A' n' c')) => show TreeAtR W b 4 (.slice none 0 0) [] [] (.slice A' n' c') (ks ++ [k]) (us2 ++ [.int .i64 k.sort, .int .i64 k.num, .string k.text, .slice E1 k.names.length e1, .slice E2 k.kids.length e2]) (fi2 ++ fq6) ∧ RdK W g s f' l6 b6 ∧ w.grownBy W (some g) ∧ Row W w.heap.size 26 zTree from by
          subst hW
          refine ⟨HT7.out.put2 HG8.out HN8.out 4 rfl (fun g hg => ?_), HR6.out.low (hfr _) hgw, only_lowR HG6.out (hfr _) (Nat.le_refl _), ?_⟩
          · rcases List.mem_append.1 hg with hg | hg
            · exact .inl hg
            · exact .inr ⟨fun e => absurd (HTd.out.one.lt g e) (Nat.not_lt.2 (HN6.out.fr g hg).1), fun h => by cases h⟩
          · exact Row.far (p := ⟨b, 4, none⟩) (HG8.out.row (HZ6.out.alloc _) (HT7.out.two.low (by omega))) (Nat.ne_of_lt hbw) _)
        have HFS := hide (HF.out.step HNE.out H1.out HH2.out HTK6.out)
        have h3 := HP6.out
        have h5 := PaidF.step (m := 0) HP.out HMM.out h3 (fun e => HMB.out (HB6.out e)) hd6
        have HPS := hide (show PaidF lv l1 (bulkStrs [] + (ks ++ [k]).length + Tree.bulkS (ks ++ [k])) l6 b6 from by
          have e : bulkStrs [] + (ks ++ [k]).length + Tree.bulkS (ks ++ [k]) = bulkStrs [] + ks.length + Tree.bulkS ks + 0 + 1 + k.bulk := by
            rw [tbulkS_snoc, List.length_append, List.length_singleton]
            omega
          rw [e]
          exact h5)
        have HLE := hide (show b6 = false → l6.length < lx.length from fun e => by
          have a1 := (h3.2.2 e).1
          have a4 := HMM.out.1
          omega)
        have HFE := hide (show PartsAt 4 lv l1 (ks ++ [k]).isEmpty b6 [] (ks ++ [k]) l6 from by
          rw [show (ks ++ [k]).isEmpty = false from by simp]
          exact HFS.out)
        clear hfr h3 h5
        go_wp2
        refine ⟨⟨ks ++ [k], l6, b6, A', n', c', _, _, (HF9.out _ rfl).1, (HF9.out _ rfl).2.1, HPS.out, HFE.out, (HF9.out _ rfl).2.2.1, (HF9.out _ rfl).2.2.2⟩, ?_⟩
        rw [(HF9.out _ rfl).2.1.meas, HM.out]
        have h := HLE.out
        rcases b6 with _ | _
        · have := h rfl
          rw [if_neg (by decide), if_neg (by decide)]
          omega
        · rw [if_pos rfl, if_neg (by decide)]
          omega
set_option maxRecDepth 100000 in
set_option maxHeartbeats 4000000 in
theorem many5_of {f' : Nat} (ih : TreeRdS f') {s : ByteArray} {l1 : List UInt8} {g lv : Nat} {w : World} (hlf : lv + (f' + 1) = 7) (hlv : 1 ≤ lv) (h : RdK w g s 0 (123 :: l1) false) :
    Calls Tryz.prog 106 #[.pointer (some ⟨g, 0, none⟩), .int .i64 5, .int .u8 125, .int .i64 (lv : Int)] w (TreeOutR (fun w l b => RdK w g s (f' + 1) l b) g lv (123 :: l1) false w) := by
  have hgw := h.lt
  have hd6 : lv ≤ 6 := by omega
  have hend : endOf 5 = 125 := rfl
  have HEND := hide (fun (W : World) (k : Tree) (vs : List Value) (fq : List Nat) (l' : List UInt8) (bad' : Bool) (ho : OwC W k.cells vs fq) (hn : New W fq (w.heap.size + 1)) (hr : RdK W g s (f' + 1) l' bad') (hg : w.grownBy W (some g)) (hp : Paid lv (123 :: l1) k.bulk l' bad') (ht : TakesT lv (123 :: l1) false k l' bad') (hbb : bad' = false → (false : Bool) = false) =>
    show TreeOutR (fun w l b => RdK w g s (f' + 1) l b) g lv (123 :: l1) false w (.returned (.agg vs.toArray)) (putN W w.heap.size 0 vs) from by
      have hgr := setN_grown vs 0 (grown_refl W (some w.heap.size))
      have hno : w.heap.size ∉ fq := hn.out (by omega)
      exact ⟨k, vs, fq, l', bad', rfl, ho.grown hgr hn.lt hno, (hn.grown hgr (fun b e => by injection e with e; subst e; exact hno)).mono (by omega), hr.low (fin_lowR hg vs) hgw, fin_grownR hg vs, hp, ht, hbb⟩)
  have HIK := hide (fun (W : World) (l : List UInt8) (bad : Bool) (h : RdK W g s 0 l bad) => show Calls Tryz.prog 52 #[.pointer (some ⟨g, 0, none⟩), .int .i64 ((lv : Int) + 1)] W (TreeOutR (fun w l b => RdK w g s f' l b) g (lv + 1) l bad W) from by
    have h := ih s l bad g (lv + 1) W (by omega) (by omega) h
    rw [show ((lv + 1 : Nat) : Int) = (lv : Int) + 1 by omega] at h
    exact h)
  obtain ⟨ia, hia, ha0, ha1, ha2⟩ := info_parts info_strR
  obtain ⟨ib, hib, hb0, hb1, hb2⟩ := info_parts info_TreeR
  have HIa := hide hia
  have HIb := hide hib
  have HR0 := hide h
  clear hia hib h ih
  go_enter Tryz.func106, Tryz.ntmps106
  go_upto_region 1 with fail
  generalize hw1 : w.alloc _ = w1
  have hbZ : Below w.heap.size w w1 := by rw [← hw1]; exact (Below.refl _ _).alloc (Nat.le_refl _) _
  have HZ1 := hide (show Row w1 w.heap.size 26 zTree from by rw [← hw1]; exact Row.new w _ _)
  have HR1 := hide (HR0.out.below hbZ)
  have HG1 := hide (grownBy_below hbZ (some g))
  clear hw1 hbZ HR0
  go_upto_region 2 with fail
  obtain ⟨b, hb⟩ : ∃ b, b = w1.heap.size := ⟨_, rfl⟩
  have hbw : w.heap.size < b := by rw [hb]; exact HZ1.out.lt
  generalize hw2 : w1.alloc _ = w2
  have hbA : Below w1.heap.size w1 w2 := by rw [← hw2]; exact (Below.refl _ _).alloc (Nat.le_refl _) _
  have HT2 := hide (show TreeAtR w2 b 5 (.slice none 0 0) [] [] (.slice none 0 0) [] [] [] from ⟨by rw [← hw2, hb]; exact Row.new w1 _ _, OwS.nil _ _ _ _ _, OwS.nil _ _ _ _ _, Nat.lt_succ_self _, fun g h => (by cases h), fun g h => (by cases h), fun g h => (by cases h), fun g h => (by cases h)⟩)
  have HR2 := hide (HR1.out.below hbA)
  have HG2 := hide (only_lowR HG1.out hbA (Nat.le_of_lt HZ1.out.lt))
  have HZ2 := hide (HZ1.out.below hbA HZ1.out.lt)
  clear hw2 hbA HR1 HG1 HZ1
  (try simp only [← hb])
  clear hb
  obtain ⟨np, x1, x1f, xb, hnx⟩ := HR2.out.next (fun _ h => by cases h)
  have hgrx : w2.grownBy (w2.setCell ⟨g, 1, none⟩ (.int .i64 ((np : Int) + 1))) (some g) := grownBy_setCell w2 ⟨g, 1, none⟩ _
  have HRx := hide (show RdK (w2.setCell ⟨g, 1, none⟩ (.int .i64 ((np : Int) + 1))) g s 1 l1 false from hnx)
  have HTx := hide (HT2.out.farR hgrx (by omega))
  have HZx := hide (HZ2.out.grown hgrx (fun e => by injection e with e; omega))
  have HGx := hide (only_trans HG2.out hgrx)
  have lg2 := HR2.out.lt
  clear hnx hgrx HR2 HT2 HZ2 HG2
  go_upto_region 3 with fail
  clear x1 x1f xb lg2
  generalize (World.setCell _ _ _) = w4 at HRx HTx HZx HGx ⊢
  have HR4 := hide (HRx.out.zero.mono (Nat.zero_le f'))
  have HT4 := HTx
  have HZ4 := HZx
  have HG4 := HGx
  have hl3b : l1.length ≤ 10000 := HRx.out.len
  clear HRx HTx HZx HGx
  go_loopw [] (fun wr => ∃ (ns : List ByteArray) (ks : List Tree) (lx : List UInt8) (bx : Bool) (B1 : Option Addr) (m1 d1 : Nat) (us1 : List Value) (B2 : Option Addr) (m2 d2 : Nat) (us2 : List Value) (fi2 : List Nat), TreeAtR wr b 5 (.slice B1 m1 d1) ns us1 (.slice B2 m2 d2) ks us2 fi2 ∧ RdK wr g s f' lx bx ∧ ns.length = ks.length ∧ PaidF lv l1 (bulkStrs ns + ks.length + Tree.bulkS ks) lx bx ∧ PartsAt 5 lv l1 ks.isEmpty bx ns ks lx ∧ w.grownBy wr (some g) ∧ Row wr w.heap.size 26 zTree) (fun wr => rdMeas wr g s.size)
  case atStart => exact ⟨[], [], l1, false, none, 0, 0, [], none, 0, 0, [], [], HT4.out, HR4.out, rfl, PaidF.start _ _ _, PartsAt.start _ _ _, HG4.out, HZ4.out⟩
  case round =>
    obtain ⟨ns, ks, lx, bx, B1, m1, d1, us1, B2, m2, d2, us2, fi2, hT, hR, hln, hP, hF, hG, hZ⟩ := hrel
    have HT := hide hT
    have HR := hide hR
    have HP := hide hP
    have HF := hide hF
    have HG := hide hG
    have HZ := hide hZ
    have HM := hide hR.meas
    have HLN := hide hln
    obtain ⟨hbc, hbf⟩ := hR.cells
    have lgr := hR.lt
    have lq := hT.box.lt
    clear hT hR hP hF hG hZ hln HT4 HR4 HG4 HZ4
    rcases bx with _ | _
    rotate_left
    · obtain ⟨wl, rfl⟩ : ∃ W, W = wr := ⟨_, rfl⟩
      obtain ⟨np, x1, x1f, xb, hnx⟩ := HR.out.next (fun h => by cases h)
      have HRx := hide hnx
      have hgrx : wl.grownBy (wl.setCell ⟨g, 1, none⟩ (.int .i64 ((np : Int) + 1))) (some g) := grownBy_setCell wl ⟨g, 1, none⟩ _
      have HTx := hide (HT.out.farR hgrx (by omega))
      have HZx := hide (HZ.out.grown hgrx (fun e => by injection e with e; omega))
      have HGx := hide (only_trans HG.out hgrx)
      clear hnx hgrx
      have z0 := HZx.out.cell 0
      have y0 := HZx.out.frozen 0
      have z1 := HZx.out.cell 1
      have y1 := HZx.out.frozen 1
      have z2 := HZx.out.cell 2
      have y2 := HZx.out.frozen 2
      have z3 := HZx.out.cell 3
      have y3 := HZx.out.frozen 3
      have z4 := HZx.out.cell 4
      have y4 := HZx.out.frozen 4
      have lz := HZx.out.lt
      have q0 := HTx.out.box.cell 0
      have q1 := HTx.out.box.cell 1
      have q2 := HTx.out.box.cell 2
      have q3 := HTx.out.box.cell 3
      have q4 := HTx.out.box.cell 4
      have lqx := HTx.out.box.lt
      go_wp2
      obtain ⟨fq, ho, hnw⟩ := tform_ow HTx.out (by decide)
      refine bodyPost_ret (ret_row rfl _ _ w.heap.size 26 (treeMkR 5 (.slice B1 m1 d1) (.slice B2 m2 d2)) (HZx.out.setAll (treeMkR 5 (.slice B1 m1 d1) (.slice B2 m2 d2)) rfl) _ rfl Tryz.underlying26 rfl (by kernel_rfl)) rfl ?_
      exact HEND.out _ (.mk 5 0 .empty ns ks) _ fq (lx.drop 1) true ho (hnw.mono (by omega)) HRx.out HGx.out (by rw [Tree.bulk_mk, show (ByteArray.empty).size = 0 from rfl, Nat.zero_add]; exact PaidF.done rfl HP.out (by rw [List.length_drop]; omega) (fun h => by cases h)) (TakesT.form HF.out rfl (fun h => by cases h)) (fun _ => by first | rfl | trivial)
    have HLK := hide (look1_any HR.out (by omega))
    go_wp2_with fail
    refine HLK.out.mono ?_
    rintro e wl ⟨rfl, q, hwl⟩
    have HT := hide (show TreeAtR wl b 5 (.slice B1 m1 d1) ns us1 (.slice B2 m2 d2) ks us2 fi2 from by rw [hwl]; exact HT.out.drewN q)
    have HR := hide (show RdK wl g s f' lx false from by rw [hwl]; exact HR.out.drewN q)
    have HZ := hide (show Row wl w.heap.size 26 zTree from by rw [hwl]; exact HZ.out.drewN q)
    have HG := hide (show w.grownBy wl (some g) from by rw [hwl]; exact only_drewN HG.out q)
    obtain ⟨hbc, hbf⟩ := HR.out.cells
    have lgr := HR.out.lt
    have lq := HT.out.box.lt
    obtain ⟨c, hc⟩ : ∃ c, lx.headD 0 = c := ⟨_, rfl⟩
    rw [hc]
    have HCX := hide hc
    have hcl := c.toNat_lt
    clear hwl hc HLK
    by_cases ce : c = 125
    · have ci : (c.toNat : Int) = 125 := by subst ce; rfl
      have hlx : ∃ r, lx = 125 :: r := by
        match lx, HCX.out with
        | [], h => subst ce; exact absurd h (by decide)
        | a :: r, h => exact ⟨r, by rw [← ce, ← h]; rfl⟩
      obtain ⟨r, rfl⟩ := hlx
      clear ce
      rw [ci]
      obtain ⟨np, x1, x1f, xb, hnx⟩ := HR.out.next (fun _ h => by cases h)
      have HRx := hide hnx
      have hgrx : wl.grownBy (wl.setCell ⟨g, 1, none⟩ (.int .i64 ((np : Int) + 1))) (some g) := grownBy_setCell wl ⟨g, 1, none⟩ _
      have HTx := hide (HT.out.farR hgrx (by omega))
      have HZx := hide (HZ.out.grown hgrx (fun e => by injection e with e; omega))
      have HGx := hide (only_trans HG.out hgrx)
      clear hnx hgrx
      have z0 := HZx.out.cell 0
      have y0 := HZx.out.frozen 0
      have z1 := HZx.out.cell 1
      have y1 := HZx.out.frozen 1
      have z2 := HZx.out.cell 2
      have y2 := HZx.out.frozen 2
      have z3 := HZx.out.cell 3
      have y3 := HZx.out.frozen 3
      have z4 := HZx.out.cell 4
      have y4 := HZx.out.frozen 4
      have lz := HZx.out.lt
      have q0 := HTx.out.box.cell 0
      have q1 := HTx.out.box.cell 1
      have q2 := HTx.out.box.cell 2
      have q3 := HTx.out.box.cell 3
      have q4 := HTx.out.box.cell 4
      have lqx := HTx.out.box.lt
      go_wp2
      obtain ⟨fq, ho, hnw⟩ := tform_ow HTx.out (by decide)
      refine bodyPost_ret (ret_row rfl _ _ w.heap.size 26 (treeMkR 5 (.slice B1 m1 d1) (.slice B2 m2 d2)) (HZx.out.setAll (treeMkR 5 (.slice B1 m1 d1) (.slice B2 m2 d2)) rfl) _ rfl Tryz.underlying26 rfl (by kernel_rfl)) rfl ?_
      exact HEND.out _ (.mk 5 0 .empty ns ks) _ fq ((125 :: r).drop 1) false ho (hnw.mono (by omega)) HRx.out HGx.out (by rw [Tree.bulk_mk, show (ByteArray.empty).size = 0 from rfl, Nat.zero_add]; exact PaidF.done rfl HP.out (by rw [List.length_drop]; omega) (fun _ => by simp)) (TakesT.form HF.out rfl (fun _ => rfl)) (fun _ => by first | rfl | trivial)
    have ci : ¬ ((c.toNat : Int) = 125) := fun e => ce (UInt8.toNat_inj.1 (show c.toNat = 125 from by omega))
    have cb : ((c.toNat : Int) != 125) = true := by simpa using ci
    have HNE := hide (show ∀ r, lx ≠ endOf 5 :: r from fun r e => ce (by have h := HCX.out; rw [e] at h; exact h.symm))
    have HR0 := hide HR.out.zero
    clear ce
    obtain ⟨E1, e1, hv1⟩ := HT.out.one.form
    injection hv1 with hv1a hv1b hv1c
    subst hv1a hv1b hv1c
    obtain ⟨E2, e2, hv2⟩ := HT.out.two.form
    injection hv2 with hv2a hv2b hv2c
    subst hv2a hv2b hv2c
    have t2 : wl.cell? ⟨b, 4, none⟩ = some (.slice B2 ks.length d2) := HT.out.box.cell 4
    by_cases hk0 : ks.length = 0
    case' pos =>
      have hks : ks = [] := List.eq_nil_of_length_eq_zero hk0
      have hki : ¬ ((0 : Int) < (ks.length : Int)) := by omega
      obtain ⟨ok1, hok1⟩ : ∃ b, b = true := ⟨_, rfl⟩
      obtain ⟨l2, hl2⟩ : ∃ l2, l2 = lx := ⟨_, rfl⟩
      have H1 := hide (show (ks.isEmpty = true ∧ l2 = lx ∧ ok1 = true) ∨ (ks.isEmpty = false ∧ Eaten [44] lx ok1 l2) from .inl ⟨by rw [hks]; rfl, hl2, hok1⟩)
      have H2L := hide (show l2.length ≤ lx.length from by rw [hl2]; exact Nat.le_refl _)
      have HR5 := hide (show RdK wl g s 0 l2 (!ok1) from by rw [hl2, hok1]; exact HR0.out)
      have HT5 := HT
      have HG5 := HG
      have HZ5 := HZ
      clear hks hok1 hl2 HR HR0 HT HG HZ
      go_upto_region 7 with fail
      obtain ⟨w5, rfl⟩ : ∃ W, W = wl := ⟨_, rfl⟩
      clear hk0 hki t2
      skip
    case' neg =>
      have hki : (0 : Int) < (ks.length : Int) := by omega
      have HEQ := hide (eat1_any HR0.out (by omega) ⟨#[44]⟩ (by decide) (by decide))
      go_wp2_with fail
      refine HEQ.out.mono ?_
      rintro e w5 ⟨ok1, l2, rfl, h5, he5, hg5⟩
      rw [Bool.false_or] at h5
      have H1 := hide (show (ks.isEmpty = true ∧ l2 = lx ∧ ok1 = true) ∨ (ks.isEmpty = false ∧ Eaten [44] lx ok1 l2) from .inr ⟨by cases ks with | nil => exact absurd rfl hk0 | cons a b => rfl, he5⟩)
      have H2L := hide he5.le
      have HT5 := hide (HT.out.farR hg5 (by omega))
      have HR5 := hide h5
      have HG5 := hide (only_trans HG.out hg5)
      have HZ5 := hide (HZ.out.grown hg5 (fun e => by injection e with e; omega))
      go_upto_region 7 with fail
      clear hk0 hki h5 he5 hg5 HEQ t2 HT HR HZ HG HR0
      skip
    all_goals
      have lq5 := HT5.out.box.lt
      have lg5 := HR5.out.lt
      have hln5 : ns.length ≤ 100000 := by have h := HP.out.2.2 rfl; have hl := HP.out.1; unfold bulkStrs at h; have h3 := hl3b; omega
      have hlk5 : ks.length ≤ 100000 := by have := HLN.out; omega
      have t1 : w5.cell? ⟨b, 3, none⟩ = some (.slice B1 ns.length d1) := HT5.out.box.cell 3
      have hszA : b + 1 ≤ w5.heap.size := HT5.out.box.lt
      have HNM := hide (fun (W : World) (h : RdK W g s 0 l2 (!ok1)) => name1_any h (by omega) h.hat)
      go_cut [] from 39 to 46 (fun wx => ∃ (x : ByteArray) (l4 : List UInt8) (C1 : Option Addr) (p1 q1 : Nat) (us1' : List Value), TreeAtR wx b 5 (.slice C1 p1 q1) (ns ++ [x]) us1' (.slice B2 ks.length d2) ks us2 fi2 ∧ RdK wx g s 0 l4 (!ok1) ∧ Named l2 x l4 ∧ x.size ≤ 10000 ∧ w.grownBy wx (some g) ∧ Row wx w.heap.size 26 zTree)
      case first =>
        go_region_law (first | (refine step_app (by rfl) _ _ 23 (by rfl) ia _ 16 Tryz.underlying23 HIa.out ha0 ha1 ha2 rfl (by decide) strC_len (by rfl) HT7.out.one [x] (HDS.out _) (by exact New.nil _ _) (fun g _ hg => by cases hg) _ 1 1 (by rfl) rfl (SrcAt.new w6 _ _ _ _) (by omega) (by decide) (by rw [World.size_alloc]; omega) ?_; intro A' n' c' w8 hn8 hown8 hgb8; have HG8 := hide hgb8; have HN8 := hide hown8; have r8 := HT7.out.row1 hgb8; have q8 : w8.cell? ⟨b, 3, none⟩ = some (.slice B1 ns.length d1) := r8.cell 3; have f8 : w8.frozen? ⟨b, 3, none⟩ = false := r8.frozen 3; clear hown8 hgb8 r8 hn8) | (go_simp; go_at_call 64; refine (HNM.out _ (HR5.out.drewN 1)).mono ?_; rintro e w6 ⟨x, l6, rfl, hs6, hr6, hnm6, hg6⟩; have HR6 := hide hr6; have HG6 := hide (only_trans (only_drewN HG5.out 1) hg6); have HNM6 := hide hnm6; have HZ6 := hide ((HZ5.out.drewN 1).grown hg6 (fun e => by injection e with e; omega)); have hz6 : w5.heap.size ≤ w6.heap.size := hg6.size; have HT6 := hide ((HT5.out.drewN 1).farR hg6 (by omega)); have t1c : w6.cell? ⟨b, 3, none⟩ = some (.slice B1 ns.length d1) := HT6.out.box.cell 3; have lt6 := HT6.out.box.lt; have HT7 := hide (HT6.out.alloc (.cells #[.string x] 9)); have HDS := hide (fun W => show OwC W ([x].flatMap strC) [.string x] [] from ⟨[], [], ⟨rfl, show x.size ≤ maxLen by (unfold maxLen; omega), rfl⟩, rfl, rfl⟩); clear hr6 hg6 hnm6))
        all_goals
          have hfr : ∀ u, Below w.heap.size w6 (w8.setCell ⟨b, 3, none⟩ u) := fun u => ((Below.refl w.heap.size w6).alloc (by omega) _).trans (HT7.out.frame1 HG8.out (by rw [World.size_alloc]; omega) 3 u (by omega))
          go_wp2_with fail
          go_meet
          exact ⟨x, l6, A', n', c', us1 ++ [.string x], HT7.out.put1 HG8.out HN8.out 3 rfl (fun g hg => by cases hg), HR6.out.low (hfr _) hgw, HNM6.out, hs6, only_lowR HG6.out (hfr _) (Nat.le_refl _), Row.far (p := ⟨b, 3, none⟩) (HG8.out.row (HZ6.out.alloc _) (HT7.out.one.low (by omega))) (Nat.ne_of_lt hbw) _⟩
      case rest =>
        clear t1 hszA HNM
        obtain ⟨x, l4, C1, p1, q1, us1', hT, hR, hnm, hxs, hG, hZ⟩ := hcut
        have HTc := hide hT
        have HNMc := hide hnm
        have HGc := hide hG
        have HZc := hide hZ
        have HEQ := hide (eat1_any hR (by omega) ⟨#[58]⟩ (by decide) (by decide))
        have lgc := hR.lt
        clear hT hR hnm hG hZ
        go_wp2_with fail
        refine HEQ.out.mono ?_
        rintro e w7 ⟨ok2, l7, rfl, h7, he7, hg7⟩
        have HTd := hide (HTc.out.farR hg7 (by omega))
        have HRd := hide h7
        have HGd := hide (only_trans HGc.out hg7)
        have HZd := hide (HZc.out.grown hg7 (fun e => by injection e with e; omega))
        have HEd := hide he7
        have HH2 := hide (show Ahead 5 [x] l2 l7 ok1 (!ok1 || !ok2) from .inl ⟨rfl, x, l4, ok2, rfl, HNMc.out, he7, fun e1 e2 => not_or_t e1 e2⟩)
        have HMM := hide (show l7.length ≤ lx.length ∧ 1 + x.size ≤ 4 * (lx.length - l7.length) + 1 from by
          have a1 := congrArg List.length HNMc.out.1
          rw [List.length_append, bl_len] at a1
          have a2 := he7.le
          have a3 := H2L.out
          omega)
        have HMB := hide (show (!ok1 || !ok2) = false → 1 + x.size ≤ 4 * (lx.length - l7.length) from fun h => by
          obtain rfl := or_not_f h
          have a1 := congrArg List.length HNMc.out.1
          rw [List.length_append, bl_len] at a1
          have a2 : l7.length + 1 = l4.length := Eaten.lt he7
          have a3 := H2L.out
          omega)
        have t2 : w7.cell? ⟨b, 4, none⟩ = some (.slice B2 ks.length d2) := HTd.out.box.cell 4
        have hszA : b + 1 ≤ w7.heap.size := HTd.out.box.lt
        have lg7 := HRd.out.lt
        obtain ⟨b4, hb4e⟩ : ∃ b4, b4 = (!ok1 || !ok2) := ⟨_, rfl⟩
        rw [← hb4e] at HRd HH2 HMB
        have HB4E := hide hb4e
        clear h7 he7 hg7 HEQ HTc HGc HZc hb4e
        have hwd : IntKind.i64.wrap ((lv : Int) + 1) = (lv : Int) + 1 := wrapI _ (by omega) (by omega)
        go_wp2_with fail
        go_region_law (first | (refine step_app (by rfl) _ _ 24 (by rfl) ib _ 80 Tryz.underlying24 HIb.out hb0 hb1 hb2 rfl (by decide) Tree.cells_len (by rfl) HT7.out.two [k] HXO.out HNA.out HNO.out _ 1 1 (by rfl) rfl (SrcAt.new w6 _ _ _ _) HLB.out (by decide) HSB.out ?_; intro A' n' c' w8 hn8 hown8 hgb8; have HG8 := hide hgb8; have HN8 := hide hown8; have r8 := HT7.out.row2 hgb8; have q8 : w8.cell? ⟨b, 4, none⟩ = some (.slice B2 ks.length d2) := r8.cell 4; have f8 : w8.frozen? ⟨b, 4, none⟩ = false := r8.frozen 4; have HNN8 := hide hn8; clear hown8 hgb8 r8 hn8) | (go_simp; go_at_call 52; have hh := HIK.out w7.drew _ _ (HRd.out.drewN 1); refine hh.mono ?_; clear hh; rintro e w6 ⟨k, us6, fq6, l6, b6, rfl, ho6, hn6, hr6, hg6, hp6, htk6, hb6⟩; have HO6 := hide ho6; have HN6 := hide hn6; have HR6 := hide hr6; have HG6 := hide (only_trans (only_drewN HGd.out 1) hg6); have HP6 := hide hp6; have HTK6 := hide htk6; have HB6 := hide hb6; have HZ6 := hide ((HZd.out.drewN 1).grown hg6 (fun e => by injection e with e; omega)); have hs6 : w7.heap.size ≤ w6.heap.size := hg6.size; obtain ⟨E1, e1, E2, e2, g1, g2, rfl, k0, k1, k2, k3, k4, efq⟩ := ho6.oTree; have HT6 := hide ((HTd.out.drewN 1).farR hg6 (by omega)); have t2c : w6.cell? ⟨b, 4, none⟩ = some (.slice B2 ks.length d2) := HT6.out.box.cell 4; have lt6 := HT6.out.box.lt; have HT7 := hide (HT6.out.alloc (.cells #[.int .i64 k.sort, .int .i64 k.num, .string k.text, .slice E1 k.names.length e1, .slice E2 k.kids.length e2] 26)); have HO7 := hide (HO6.out.alloc HN6.out.lt (.cells #[.int .i64 k.sort, .int .i64 k.num, .string k.text, .slice E1 k.names.length e1, .slice E2 k.kids.length e2] 26)); have HN7 := hide (HN6.out.alloc (.cells #[.int .i64 k.sort, .int .i64 k.num, .string k.text, .slice E1 k.names.length e1, .slice E2 k.kids.length e2] 26)); have hn6' : New w6 fq6 w7.heap.size := hn6; have HN6 := hide hn6'; have HNA := hide (show New (w6.alloc (.cells #[.int .i64 k.sort, .int .i64 k.num, .string k.text, .slice E1 k.names.length e1, .slice E2 k.kids.length e2] 26)) (fi2 ++ fq6) (b + 1) from New.app HT7.out.two.new (HN6.out.alloc _) HTd.out.two.new.lt hszA); have HXO := hide (show OwC (w6.alloc (.cells #[.int .i64 k.sort, .int .i64 k.num, .string k.text, .slice E1 k.names.length e1, .slice E2 k.kids.length e2] 26)) ([k].flatMap Tree.cells) [.int .i64 k.sort, .int .i64 k.num, .string k.text, .slice E1 k.names.length e1, .slice E2 k.kids.length e2] fq6 from by rw [List.flatMap_singleton]; exact HO7.out); have HNO := hide (show ∀ g, (Value.slice B2 ks.length d2).ownBlock = some g → g ∉ fq6 from fun g e hm => absurd (HTd.out.two.lt g e) (Nat.not_lt.2 (HN6.out.fr g hm).1)); have HLB := hide (show ks.length + 1 ≤ 1099511627776 from by omega); have HSB := hide (show b + 1 ≤ (w6.alloc (.cells #[.int .i64 k.sort, .int .i64 k.num, .string k.text, .slice E1 k.names.length e1, .slice E2 k.kids.length e2] 26)).heap.size from by rw [World.size_alloc]; omega); clear ho6 hn6 hn6' hr6 hg6 hp6 htk6 hb6 k0 k1 k2 k3 k4 efq HN7))
        all_goals
          have hfr : ∀ u, Below w.heap.size w6 (w8.setCell ⟨b, 4, none⟩ u) := fun u => ((Below.refl w.heap.size w6).alloc (by omega) _).trans (HT7.out.frame2 HG8.out (by rw [World.size_alloc]; omega) 4 u (by omega))
          have HF9 := hide (fun W (hW : W = w8.setCell ⟨b, 4, none⟩ (.slice A' n' c')) => show TreeAtR W b 5 (.slice C1 p1 q1) (ns ++ [x]) us1' (.slice A' n' c') (ks ++ [k]) (us2 ++ [.int .i64 k.sort, .int .i64 k.num, .string k.text, .slice E1 k.names.length e1, .slice E2 k.kids.length e2]) (fi2 ++ fq6) ∧ RdK W g s f' l6 b6 ∧ w.grownBy W (some g) ∧ Row W w.heap.size 26 zTree from by
            subst hW
            refine ⟨HT7.out.put2 HG8.out HN8.out 4 rfl (fun g hg => ?_), HR6.out.low (hfr _) hgw, only_lowR HG6.out (hfr _) (Nat.le_refl _), ?_⟩
            · rcases List.mem_append.1 hg with hg | hg
              · exact .inl hg
              · exact .inr ⟨fun e => absurd (HTd.out.one.lt g e) (Nat.not_lt.2 (HN6.out.fr g hg).1), fun h => by cases h⟩
            · exact Row.far (p := ⟨b, 4, none⟩) (HG8.out.row (HZ6.out.alloc _) (HT7.out.two.low (by omega))) (Nat.ne_of_lt hbw) _)
          have HFS := hide (HF.out.step HNE.out H1.out HH2.out HTK6.out)
          have h3 := HP6.out
          have h5 := PaidF.step (m := (1 + x.size)) HP.out HMM.out h3 (fun e => HMB.out (HB6.out e)) hd6
          have HPS := hide (show PaidF lv l1 (bulkStrs (ns ++ [x]) + (ks ++ [k]).length + Tree.bulkS (ks ++ [k])) l6 b6 from by
            have e : bulkStrs (ns ++ [x]) + (ks ++ [k]).length + Tree.bulkS (ks ++ [k]) = bulkStrs ns + ks.length + Tree.bulkS ks + (1 + x.size) + 1 + k.bulk := by
              rw [bulkStrs_snoc, tbulkS_snoc, List.length_append, List.length_singleton]
              omega
            rw [e]
            exact h5)
          have HLE := hide (show b6 = false → l6.length < lx.length from fun e => by
            have a1 := (h3.2.2 e).1
            have a4 := HMM.out.1
            omega)
          have HFE := hide (show PartsAt 5 lv l1 (ks ++ [k]).isEmpty b6 (ns ++ [x]) (ks ++ [k]) l6 from by
            rw [show (ks ++ [k]).isEmpty = false from by simp]
            exact HFS.out)
          have HLE2 := hide (show (ns ++ [x]).length = (ks ++ [k]).length from by rw [List.length_append, List.length_append, HLN.out]; rfl)
          clear hfr h3 h5
          go_wp2
          refine ⟨⟨ns ++ [x], ks ++ [k], l6, b6, C1, p1, q1, us1', A', n', c', _, _, (HF9.out _ rfl).1, (HF9.out _ rfl).2.1, HLE2.out, HPS.out, HFE.out, (HF9.out _ rfl).2.2.1, (HF9.out _ rfl).2.2.2⟩, ?_⟩
          rw [(HF9.out _ rfl).2.1.meas, HM.out]
          have h := HLE.out
          rcases b6 with _ | _
          · have := h rfl
            rw [if_neg (by decide), if_neg (by decide)]
            omega
          · rw [if_pos rfl, if_neg (by decide)]
            omega
end Go.Proofs.YtnaecdoeldoipaaGreatDoor
set_option linter.unusedVariables false
set_option linter.unusedSimpArgs false
namespace Go.Proofs.YtnaecdoeldoipaaGreatDoor
open Go.ChangeShapes Go.WideShapes Go.ChangeAt Go.RowKit

theorem head_consR {l r : List UInt8} {a c : UInt8} (h : l.headD 0 = c) (e : l = a :: r) : a = c := by subst e; exact h
theorem head_split {l : List UInt8} {c : UInt8} (h : l.headD 0 = c) (hc : c ≠ 0) : ∃ r, l = c :: r := by
  cases l with
  | nil => exact absurd h.symm hc
  | cons a r => exact ⟨r, by rw [← h]; rfl⟩
set_option maxRecDepth 100000 in
set_option maxHeartbeats 4000000 in
theorem treeRdS_of (f : Nat) (ih : ∀ f', f = f' + 1 → TreeRdS f') : TreeRdS f := by
  intro s l bad g lv w hlf hlv h
  have hgw := h.lt
  have HEND := hide (fun (W : World) (k : Tree) (vs : List Value) (fq : List Nat) (l' : List UInt8) (bad' : Bool) (ho : OwC W k.cells vs fq) (hn : New W fq (w.heap.size + 1)) (hr : RdK W g s f l' bad') (hg : w.grownBy W (some g)) (hp : Paid lv l k.bulk l' bad') (ht : TakesT lv l bad k l' bad') (hbb : bad' = false → bad = false) =>
    show TreeOutR (fun w l b => RdK w g s f l b) g lv l bad w (.returned (.agg vs.toArray)) (putN W w.heap.size 0 vs) from by
      have hgr := setN_grown vs 0 (grown_refl W (some w.heap.size))
      have hno : w.heap.size ∉ fq := hn.out (by omega)
      exact ⟨k, vs, fq, l', bad', rfl, ho.grown hgr hn.lt hno, (hn.grown hgr (fun b e => by injection e with e; subst e; exact hno)).mono (by omega), hr.low (fin_lowR hg vs) hgw, fin_grownR hg vs, hp, ht, hbb⟩)
  have HIH := hide ih
  have HR0 := hide h
  clear h ih
  go_enter Tryz.func52, Tryz.ntmps52
  go_upto_region 1 with fail
  generalize hw1 : w.alloc _ = w1
  have hb0 : Below w.heap.size w w1 := by rw [← hw1]; exact (Below.refl _ _).alloc (Nat.le_refl _) _
  have HZ := hide (show Row w1 w.heap.size 26 zTree from by rw [← hw1]; exact Row.new w _ _)
  have HR := hide (HR0.out.below hb0)
  have HG := hide (grownBy_below hb0 (some g))
  have hg1 := HR.out.lt
  have hz1 := HZ.out.lt
  clear hw1 hb0 HR0
  by_cases hstop : bad = true ∨ 6 < lv
  · have HRq := hide (HR.out.setBad)
    have HGq := hide (only_setCell (p := ⟨g, 2, none⟩) HG.out (.inl rfl) (.bool true))
    have HZq := hide (HZ.out.grown (only_setCell (p := ⟨g, 2, none⟩) (grown_refl _ (some g)) (.inl rfl) (.bool true)) (fun e => by injection e with e; omega))
    have hor : (bad = true) ∨ (bad = false ∧ (6 : Int) < (lv : Int)) := by
      rcases hb : bad with _ | _
      · rcases hstop with hs | hs
        · rw [hb] at hs; cases hs
        · exact .inr ⟨rfl, by omega⟩
      · exact .inl rfl
    have HT := hide (show TakesT lv l bad (.mk 0 0 .empty [] []) l true from by
      rcases hor with rfl | ⟨_, h6⟩
      · exact TakesT.bad
      · exact TakesT.deep (by omega))
    obtain ⟨hbc, hbf⟩ := HR.out.cells
    have z0 := HZq.out.cell 0
    have y0 := HZq.out.frozen 0
    have z1 := HZq.out.cell 1
    have y1 := HZq.out.frozen 1
    have z2 := HZq.out.cell 2
    have y2 := HZq.out.frozen 2
    have z3 := HZq.out.cell 3
    have y3 := HZq.out.frozen 3
    have z4 := HZq.out.cell 4
    have y4 := HZq.out.frozen 4
    have lz := HZq.out.lt
    clear hstop
    rcases hor with rfl | ⟨rfl, hdd⟩
    all_goals
      go_wp2
      refine bodyPost_ret (ret_row rfl _ _ w.heap.size 26 [.int .i64 0, .int .i64 0, .string ⟨#[]⟩, .slice none 0 0, .slice none 0 0] (HZq.out.setAll [.int .i64 0, .int .i64 0, .string ⟨#[]⟩, .slice none 0 0, .slice none 0 0] rfl) _ rfl Tryz.underlying26 rfl (by kernel_rfl)) rfl ?_
      exact HEND.out _ (.mk 0 0 .empty [] []) _ [] l true (tleaf_ow _ (by decide) (by decide) (by decide)) (New.nil _ _) (HRq.out.mono (by omega)) HGq.out (Paid.none lv l) HT.out (fun h => by cases h)
  · obtain rfl : bad = false := by
      rcases hb : bad with _ | _
      · rfl
      · exact absurd (.inl hb) hstop
    have hd6 : lv ≤ 6 := Nat.not_lt.1 (fun hd => hstop (.inr hd))
    have hdi : ¬ ((6 : Int) < (lv : Int)) := by omega
    obtain ⟨f', rfl⟩ : ∃ f', f = f' + 1 := ⟨f - 1, by omega⟩
    have HI := hide (HIH.out f' rfl)
    obtain ⟨hbc, hbf⟩ := HR.out.cells
    have HLK := hide (look1_any HR.out (by omega))
    clear hstop HIH
    go_wp2_with fail
    refine HLK.out.mono ?_
    rintro e w2 ⟨rfl, q, hw2⟩
    have HR2 := hide (show RdK w2 g s 0 l false from by rw [hw2]; exact HR.out.drewN q)
    have HZ2 := hide (show Row w2 w.heap.size 26 zTree from by rw [hw2]; exact HZ.out.drewN q)
    have HG2 := hide (show w.grownBy w2 (some g) from by rw [hw2]; exact only_drewN HG.out q)
    obtain ⟨c, hc⟩ : ∃ c, l.headD 0 = c := ⟨_, rfl⟩
    rw [hc]
    have HC := hide (fun (a : UInt8) (r : List UInt8) (e : l = a :: r) => (show a = c from head_consR hc e))
    have HCD := hide hc
    have hcl := c.toNat_lt
    have hg2 := HR2.out.lt
    clear hw2 hc HLK HR HZ HG hbc hbf hg1 hz1
    have HEAT := hide (fun (u : ByteArray) (h1 : 1 ≤ u.size) (h2 : u.size ≤ 100) => eat1_any HR2.out (by omega) u h1 h2)
    by_cases ca : c = 34
    · have ci : (c.toNat : Int) = 34 := by subst ca; rfl
      have HC1 := hide (fun a r e => (HC.out a r e).trans ca)
      have HCE := hide (show l.headD 0 = 34 from HCD.out.trans ca)
      clear ca HC HCD
      rw [ci]
      have HTX := hide (text1_any HR2.out)
      go_wp2_with fail
      refine HTX.out.mono ?_
      rintro e w3 ⟨x, l3, b3, rfl, hx3, h3, ht3, hp3, hg3⟩
      have HR3 := hide h3
      have HG3 := hide (only_trans HG2.out hg3)
      have HZ3 := hide (HZ2.out.grown hg3 (fun e => by injection e with e; omega))
      have HT3 := hide ht3
      have HP3 := hide hp3
      have hg3' := HR3.out.lt
      clear h3 ht3 hp3 hg3 HTX
      have z0 := HZ3.out.cell 0
      have y0 := HZ3.out.frozen 0
      have z1 := HZ3.out.cell 1
      have y1 := HZ3.out.frozen 1
      have z2 := HZ3.out.cell 2
      have y2 := HZ3.out.frozen 2
      have z3 := HZ3.out.cell 3
      have y3 := HZ3.out.frozen 3
      have z4 := HZ3.out.cell 4
      have y4 := HZ3.out.frozen 4
      have lz := HZ3.out.lt
      go_wp2
      refine bodyPost_ret (ret_row rfl _ _ w.heap.size 26 [.int .i64 2, .int .i64 0, .string x, .slice none 0 0, .slice none 0 0] (HZ3.out.setAll [.int .i64 2, .int .i64 0, .string x, .slice none 0 0, .slice none 0 0] rfl) _ rfl Tryz.underlying26 rfl (by kernel_rfl)) rfl ?_
      exact HEND.out _ (.mk 2 0 x [] []) _ [] l3 b3 (tleaf_ow _ (by decide) (by decide) (by unfold maxLen; omega)) (New.nil _ _) (HR3.out.mono (by omega)) HG3.out (by rw [Tree.bulk_text]; have h1 := HP3.out.1; have h2 := HP3.out.2; exact ⟨by omega, by omega, fun hb => by have := h2 hb; omega⟩) (TakesT.text HT3.out HC1.out) (fun _ => by first | rfl | trivial)
    have nca : ¬ ((c.toNat : Int) = 34) := fun e => ca (UInt8.toNat_inj.1 (show c.toNat = 34 from by omega))
    by_cases cb : c = 121
    · have ci : (c.toNat : Int) = 121 := by subst cb; rfl
      have HC1 := hide (fun a r e => (HC.out a r e).trans cb)
      have HCE := hide (show l.headD 0 = 121 from HCD.out.trans cb)
      clear cb HC HCD
      rw [ci]
      go_wp2_with fail
      refine (HEAT.out _ (by decide) (by decide)).mono ?_
      rintro e w3 ⟨ok, l3, rfl, h3, he3, hg3⟩
      rw [Bool.false_or] at h3
      have HR3 := hide h3
      have HG3 := hide (only_trans HG2.out hg3)
      have HZ3 := hide (HZ2.out.grown hg3 (fun e => by injection e with e; omega))
      have HE3 := hide he3
      have hg3' := HR3.out.lt
      clear h3 he3 hg3
      have z0 := HZ3.out.cell 0
      have y0 := HZ3.out.frozen 0
      have z1 := HZ3.out.cell 1
      have y1 := HZ3.out.frozen 1
      have z2 := HZ3.out.cell 2
      have y2 := HZ3.out.frozen 2
      have z3 := HZ3.out.cell 3
      have y3 := HZ3.out.frozen 3
      have z4 := HZ3.out.cell 4
      have y4 := HZ3.out.frozen 4
      have lz := HZ3.out.lt
      go_wp2
      refine bodyPost_ret (ret_row rfl _ _ w.heap.size 26 [.int .i64 3, .int .i64 1, .string ⟨#[]⟩, .slice none 0 0, .slice none 0 0] (HZ3.out.setAll [.int .i64 3, .int .i64 1, .string ⟨#[]⟩, .slice none 0 0, .slice none 0 0] rfl) _ rfl Tryz.underlying26 rfl (by kernel_rfl)) rfl ?_
      exact HEND.out _ (.mk 3 1 .empty [] []) _ [] l3 (!ok) (tleaf_ow _ (by decide) (by decide) (by decide)) (New.nil _ _) (HR3.out.mono (by omega)) HG3.out (Paid.leaf (by decide) HE3.out _ rfl) (TakesT.yes HE3.out HC1.out) (fun _ => by first | rfl | trivial)
    have ncb : ¬ ((c.toNat : Int) = 121) := fun e => cb (UInt8.toNat_inj.1 (show c.toNat = 121 from by omega))
    by_cases cc : c = 110
    · have ci : (c.toNat : Int) = 110 := by subst cc; rfl
      have HC1 := hide (fun a r e => (HC.out a r e).trans cc)
      have HCE := hide (show l.headD 0 = 110 from HCD.out.trans cc)
      clear cc HC HCD
      rw [ci]
      go_wp2_with fail
      refine (HEAT.out _ (by decide) (by decide)).mono ?_
      rintro e w3 ⟨ok, l3, rfl, h3, he3, hg3⟩
      rw [Bool.false_or] at h3
      have HR3 := hide h3
      have HG3 := hide (only_trans HG2.out hg3)
      have HZ3 := hide (HZ2.out.grown hg3 (fun e => by injection e with e; omega))
      have HE3 := hide he3
      have hg3' := HR3.out.lt
      clear h3 he3 hg3
      have z0 := HZ3.out.cell 0
      have y0 := HZ3.out.frozen 0
      have z1 := HZ3.out.cell 1
      have y1 := HZ3.out.frozen 1
      have z2 := HZ3.out.cell 2
      have y2 := HZ3.out.frozen 2
      have z3 := HZ3.out.cell 3
      have y3 := HZ3.out.frozen 3
      have z4 := HZ3.out.cell 4
      have y4 := HZ3.out.frozen 4
      have lz := HZ3.out.lt
      go_wp2
      refine bodyPost_ret (ret_row rfl _ _ w.heap.size 26 [.int .i64 3, .int .i64 0, .string ⟨#[]⟩, .slice none 0 0, .slice none 0 0] (HZ3.out.setAll [.int .i64 3, .int .i64 0, .string ⟨#[]⟩, .slice none 0 0, .slice none 0 0] rfl) _ rfl Tryz.underlying26 rfl (by kernel_rfl)) rfl ?_
      exact HEND.out _ (.mk 3 0 .empty [] []) _ [] l3 (!ok) (tleaf_ow _ (by decide) (by decide) (by decide)) (New.nil _ _) (HR3.out.mono (by omega)) HG3.out (Paid.leaf (by decide) HE3.out _ rfl) (TakesT.no HE3.out HC1.out) (fun _ => by first | rfl | trivial)
    have ncc : ¬ ((c.toNat : Int) = 110) := fun e => cc (UInt8.toNat_inj.1 (show c.toNat = 110 from by omega))
    by_cases cd : c = 126
    · have ci : (c.toNat : Int) = 126 := by subst cd; rfl
      have HC1 := hide (fun a r e => (HC.out a r e).trans cd)
      have HCE := hide (show l.headD 0 = 126 from HCD.out.trans cd)
      clear cd HC HCD
      rw [ci]
      go_wp2_with fail
      refine (HEAT.out _ (by decide) (by decide)).mono ?_
      rintro e w3 ⟨ok, l3, rfl, h3, he3, hg3⟩
      rw [Bool.false_or] at h3
      have HR3 := hide h3
      have HG3 := hide (only_trans HG2.out hg3)
      have HZ3 := hide (HZ2.out.grown hg3 (fun e => by injection e with e; omega))
      have HE3 := hide he3
      have hg3' := HR3.out.lt
      clear h3 he3 hg3
      have z0 := HZ3.out.cell 0
      have y0 := HZ3.out.frozen 0
      have z1 := HZ3.out.cell 1
      have y1 := HZ3.out.frozen 1
      have z2 := HZ3.out.cell 2
      have y2 := HZ3.out.frozen 2
      have z3 := HZ3.out.cell 3
      have y3 := HZ3.out.frozen 3
      have z4 := HZ3.out.cell 4
      have y4 := HZ3.out.frozen 4
      have lz := HZ3.out.lt
      go_wp2
      refine bodyPost_ret (ret_row rfl _ _ w.heap.size 26 [.int .i64 6, .int .i64 0, .string ⟨#[]⟩, .slice none 0 0, .slice none 0 0] (HZ3.out.setAll [.int .i64 6, .int .i64 0, .string ⟨#[]⟩, .slice none 0 0, .slice none 0 0] rfl) _ rfl Tryz.underlying26 rfl (by kernel_rfl)) rfl ?_
      exact HEND.out _ (.mk 6 0 .empty [] []) _ [] l3 (!ok) (tleaf_ow _ (by decide) (by decide) (by decide)) (New.nil _ _) (HR3.out.mono (by omega)) HG3.out (Paid.leaf (by decide) HE3.out _ rfl) (TakesT.tilde HE3.out HC1.out) (fun _ => by first | rfl | trivial)
    have ncd : ¬ ((c.toNat : Int) = 126) := fun e => cd (UInt8.toNat_inj.1 (show c.toNat = 126 from by omega))
    by_cases ce : c = 63
    · have ci : (c.toNat : Int) = 63 := by subst ce; rfl
      have HC1 := hide (fun a r e => (HC.out a r e).trans ce)
      have HCE := hide (show l.headD 0 = 63 from HCD.out.trans ce)
      clear ce HC HCD
      rw [ci]
      go_wp2_with fail
      refine (HEAT.out _ (by decide) (by decide)).mono ?_
      rintro e w3 ⟨ok, l3, rfl, h3, he3, hg3⟩
      rw [Bool.false_or] at h3
      have HR3 := hide h3
      have HG3 := hide (only_trans HG2.out hg3)
      have HZ3 := hide (HZ2.out.grown hg3 (fun e => by injection e with e; omega))
      have HE3 := hide he3
      have hg3' := HR3.out.lt
      clear h3 he3 hg3
      have HIK := hide (show Calls Tryz.prog 52 #[.pointer (some ⟨g, 0, none⟩), .int .i64 ((lv : Int) + 1)] w3 (TreeOutR (fun w l b => RdK w g s f' l b) g (lv + 1) l3 (!ok) w3) from by
        have h := HI.out s l3 (!ok) g (lv + 1) w3 (by omega) (by omega) HR3.out
        rw [show ((lv + 1 : Nat) : Int) = (lv : Int) + 1 by omega] at h
        exact h)
      go_wp2_with fail
      refine HIK.out.mono ?_
      rintro e w4 ⟨k, us, fq, l4, b4, rfl, ho4, hn4, hr4, hg4, hp4, ht4, hb4⟩
      have HO4 := hide ho4
      have HN4 := hide (hn4.mono (show w.heap.size + 1 ≤ w3.heap.size from HZ3.out.lt))
      have HR4 := hide hr4
      have HG4 := hide (only_trans HG3.out hg4)
      have HZ4 := hide (HZ3.out.grown hg4 (fun e => by injection e with e; omega))
      have HP4 := hide hp4
      have HT4 := hide ht4
      obtain ⟨B1, d1, B2, d2, f1, f2, rfl, k0, k1, k2, k3, k4, efq⟩ := ho4.oTree
      have HB4 := hide (show b4 = false → ok = true from fun hf => by simpa using hb4 hf)
      clear hb4 ho4 hn4 hr4 hg4 hp4 ht4 k0 k1 k2 k3 k4 efq HIK
      have z0 := HZ4.out.cell 0
      have y0 := HZ4.out.frozen 0
      have z1 := HZ4.out.cell 1
      have y1 := HZ4.out.frozen 1
      have z2 := HZ4.out.cell 2
      have y2 := HZ4.out.frozen 2
      have z3 := HZ4.out.cell 3
      have y3 := HZ4.out.frozen 3
      have z4 := HZ4.out.cell 4
      have y4 := HZ4.out.frozen 4
      have lz := HZ4.out.lt
      go_wp2
      have hRow := Row.new w4 26 [.int .i64 k.sort, .int .i64 k.num, .string k.text, .slice B1 k.names.length d1, .slice B2 k.kids.length d2]
      have ho5 := tone_ow (s := 6) (by decide) (HO4.out.alloc HN4.out.lt (.cells #[.int .i64 k.sort, .int .i64 k.num, .string k.text, .slice B1 k.names.length d1, .slice B2 k.kids.length d2] 26)) w4.heap.size hRow
      have hn5 : New (w4.alloc (.cells #[.int .i64 k.sort, .int .i64 k.num, .string k.text, .slice B1 k.names.length d1, .slice B2 k.kids.length d2] 26)) (w4.heap.size :: fq) (w.heap.size + 1) := (HN4.out.alloc _).consHiR (fun hm => Nat.lt_irrefl _ (HN4.out.lt _ hm)) lz (Unf.row hRow) hRow.lt
      have hfin := HEND.out (w4.alloc (.cells #[.int .i64 k.sort, .int .i64 k.num, .string k.text, .slice B1 k.names.length d1, .slice B2 k.kids.length d2] 26)) (.mk 6 0 .empty [] [k]) [.int .i64 6, .int .i64 0, .string ⟨#[]⟩, .slice none 0 0, .slice (some ⟨w4.heap.size, 0, none⟩) 1 1] _ l4 b4 ho5 hn5 ((HR4.out.below ((Below.refl _ _).alloc (Nat.le_refl _) _)).mono (by omega)) (only_alloc HG4.out _) (by rw [Tree.bulk_one]; exact Paid.more (by decide) HE3.out HP4.out HB4.out hd6) (TakesT.maybe HE3.out HC1.out HT4.out) (fun _ => by first | rfl | trivial)
      rw [putN_allocR _ _ _ _ lz] at hfin
      refine bodyPost_ret (ret_row rfl _ _ w.heap.size 26 [.int .i64 6, .int .i64 0, .string ⟨#[]⟩, .slice none 0 0, .slice (some ⟨w4.heap.size, 0, none⟩) 1 1] ((HZ4.out.setAll [.int .i64 6, .int .i64 0, .string ⟨#[]⟩, .slice none 0 0, .slice (some ⟨w4.heap.size, 0, none⟩) 1 1] rfl).alloc _) _ rfl Tryz.underlying26 rfl (by kernel_rfl)) rfl ?_
      exact hfin
    have nce : ¬ ((c.toNat : Int) = 63) := fun e => ce (UInt8.toNat_inj.1 (show c.toNat = 63 from by omega))
    by_cases cf : c = 91
    · have ci : (c.toNat : Int) = 91 := by subst cf; rfl
      have HC1 := hide (fun a r e => (HC.out a r e).trans cf)
      have HCE := hide (show l.headD 0 = 91 from HCD.out.trans cf)
      clear cf HC HCD
      rw [ci]
      obtain ⟨l1, hl1⟩ := head_split HCE.out (by decide)
      subst hl1
      have HMA := hide (many4_of HI.out (by omega) hlv HR2.out)
      go_wp2_with fail
      refine HMA.out.mono ?_
      rintro e w4 ⟨k, us, fq, l4, b4, rfl, ho4, hn4, hr4, hg4, hp4, ht4, hb4⟩
      have HO4 := hide ho4
      have HN4 := hide (hn4.mono (show w.heap.size + 1 ≤ w2.heap.size from HZ2.out.lt))
      have HR4 := hide hr4
      have HG4 := hide (only_trans HG2.out hg4)
      have HZ4 := hide (HZ2.out.grown hg4 (fun e => by injection e with e; omega))
      have HP4 := hide hp4
      have HT4 := hide ht4
      obtain ⟨B1, d1, B2, d2, f1, f2, rfl, k0, k1, k2, k3, k4, efq⟩ := ho4.oTree
      clear hb4 ho4 hn4 hr4 hg4 hp4 ht4 k0 k1 k2 k3 k4 efq HMA
      have z0 := HZ4.out.cell 0
      have y0 := HZ4.out.frozen 0
      have z1 := HZ4.out.cell 1
      have y1 := HZ4.out.frozen 1
      have z2 := HZ4.out.cell 2
      have y2 := HZ4.out.frozen 2
      have z3 := HZ4.out.cell 3
      have y3 := HZ4.out.frozen 3
      have z4 := HZ4.out.cell 4
      have y4 := HZ4.out.frozen 4
      have lz := HZ4.out.lt
      go_wp2
      refine bodyPost_ret (ret_row rfl _ _ w.heap.size 26 [.int .i64 k.sort, .int .i64 k.num, .string k.text, .slice B1 k.names.length d1, .slice B2 k.kids.length d2] (HZ4.out.setAll [.int .i64 k.sort, .int .i64 k.num, .string k.text, .slice B1 k.names.length d1, .slice B2 k.kids.length d2] rfl) _ rfl Tryz.underlying26 rfl (by kernel_rfl)) rfl ?_
      exact HEND.out _ k _ fq l4 b4 HO4.out HN4.out HR4.out HG4.out HP4.out HT4.out (fun _ => by first | rfl | trivial)
    have ncf : ¬ ((c.toNat : Int) = 91) := fun e => cf (UInt8.toNat_inj.1 (show c.toNat = 91 from by omega))
    by_cases cg : c = 123
    · have ci : (c.toNat : Int) = 123 := by subst cg; rfl
      have HC1 := hide (fun a r e => (HC.out a r e).trans cg)
      have HCE := hide (show l.headD 0 = 123 from HCD.out.trans cg)
      clear cg HC HCD
      rw [ci]
      obtain ⟨l1, hl1⟩ := head_split HCE.out (by decide)
      subst hl1
      have HMA := hide (many5_of HI.out (by omega) hlv HR2.out)
      go_wp2_with fail
      refine HMA.out.mono ?_
      rintro e w4 ⟨k, us, fq, l4, b4, rfl, ho4, hn4, hr4, hg4, hp4, ht4, hb4⟩
      have HO4 := hide ho4
      have HN4 := hide (hn4.mono (show w.heap.size + 1 ≤ w2.heap.size from HZ2.out.lt))
      have HR4 := hide hr4
      have HG4 := hide (only_trans HG2.out hg4)
      have HZ4 := hide (HZ2.out.grown hg4 (fun e => by injection e with e; omega))
      have HP4 := hide hp4
      have HT4 := hide ht4
      obtain ⟨B1, d1, B2, d2, f1, f2, rfl, k0, k1, k2, k3, k4, efq⟩ := ho4.oTree
      clear hb4 ho4 hn4 hr4 hg4 hp4 ht4 k0 k1 k2 k3 k4 efq HMA
      have z0 := HZ4.out.cell 0
      have y0 := HZ4.out.frozen 0
      have z1 := HZ4.out.cell 1
      have y1 := HZ4.out.frozen 1
      have z2 := HZ4.out.cell 2
      have y2 := HZ4.out.frozen 2
      have z3 := HZ4.out.cell 3
      have y3 := HZ4.out.frozen 3
      have z4 := HZ4.out.cell 4
      have y4 := HZ4.out.frozen 4
      have lz := HZ4.out.lt
      go_wp2
      refine bodyPost_ret (ret_row rfl _ _ w.heap.size 26 [.int .i64 k.sort, .int .i64 k.num, .string k.text, .slice B1 k.names.length d1, .slice B2 k.kids.length d2] (HZ4.out.setAll [.int .i64 k.sort, .int .i64 k.num, .string k.text, .slice B1 k.names.length d1, .slice B2 k.kids.length d2] rfl) _ rfl Tryz.underlying26 rfl (by kernel_rfl)) rfl ?_
      exact HEND.out _ k _ fq l4 b4 HO4.out HN4.out HR4.out HG4.out HP4.out HT4.out (fun _ => by first | rfl | trivial)
    have ncg : ¬ ((c.toNat : Int) = 123) := fun e => cg (UInt8.toNat_inj.1 (show c.toNat = 123 from by omega))
    have HC5 := hide (show ∀ a r, l = a :: r → a ≠ 34 ∧ a ≠ 121 ∧ a ≠ 110 ∧ a ≠ 126 ∧ a ≠ 63 ∧ a ≠ 91 ∧ a ≠ 123 from fun a r e => by
      have h := HC.out a r e
      subst h
      exact ⟨ca, cb, cc, cd, ce, cf, cg⟩)
    have HNU := hide (num1_any HR2.out)
    clear ca cb cc cd ce cf cg HC HCD
    go_wp2_with fail
    refine HNU.out.mono ?_
    rintro e w3 ⟨n, l3, b3, rfl, hn3, h3, ht3, hp3, hg3⟩
    have HR3 := hide h3
    have HG3 := hide (only_trans HG2.out hg3)
    have HZ3 := hide (HZ2.out.grown hg3 (fun e => by injection e with e; omega))
    have HT3 := hide ht3
    have HP3 := hide hp3
    have hg3' := HR3.out.lt
    clear h3 ht3 hp3 hg3 HNU
    have z0 := HZ3.out.cell 0
    have y0 := HZ3.out.frozen 0
    have z1 := HZ3.out.cell 1
    have y1 := HZ3.out.frozen 1
    have z2 := HZ3.out.cell 2
    have y2 := HZ3.out.frozen 2
    have z3 := HZ3.out.cell 3
    have y3 := HZ3.out.frozen 3
    have z4 := HZ3.out.cell 4
    have y4 := HZ3.out.frozen 4
    have lz := HZ3.out.lt
    go_wp2
    refine bodyPost_ret (ret_row rfl _ _ w.heap.size 26 [.int .i64 1, .int .i64 n, .string ⟨#[]⟩, .slice none 0 0, .slice none 0 0] (HZ3.out.setAll [.int .i64 1, .int .i64 n, .string ⟨#[]⟩, .slice none 0 0, .slice none 0 0] rfl) _ rfl Tryz.underlying26 rfl (by kernel_rfl)) rfl ?_
    exact HEND.out _ (.mk 1 n .empty [] []) _ [] l3 b3 (tleaf_ow _ (by decide) (wfiR (by omega) (by omega)) (by decide)) (New.nil _ _) (HR3.out.mono (by omega)) HG3.out (by rw [Tree.bulk_leaf]; have h1 := HP3.out.1; have h2 := HP3.out.2; exact ⟨by omega, by omega, fun hb => by have := h2 hb; omega⟩) (TakesT.num HT3.out HC5.out) (fun _ => by first | rfl | trivial)
theorem treeRdS_any : ∀ f, TreeRdS f
  | 0 => treeRdS_of 0 (fun f' e => by cases e)
  | f + 1 => treeRdS_of (f + 1) (fun f' e => by injection e with e; subst e; exact treeRdS_any f)
end Go.Proofs.YtnaecdoeldoipaaGreatDoor
