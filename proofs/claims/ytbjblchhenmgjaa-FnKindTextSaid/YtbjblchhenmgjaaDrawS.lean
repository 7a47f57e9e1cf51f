/-
  The draws of the reference: schemas that are ok, mostly.
-/
import Derived.Test.YtbjblchhenmgjaaDrawK
import Derived.Test.YtbjblchhenmgjaaKindOk2
set_option linter.unusedVariables false
set_option linter.unusedSimpArgs false
namespace Go.Proofs.Ytbjblchhenmgjaa
open Go.ChangeShapes Go.WideShapes Go.ChangeAt Go.RowKit

theorem dKind_any : ∀ d : Nat, 1 ≤ d → d ≤ 4 → DKind d
  | 0, h, _ => absurd h (by omega)
  | d + 1, h, h4 => dKind_of (d + 1) h h4 (fun h1 => by
    rw [Nat.add_sub_cancel]
    exact dKind_any d (by omega) (by omega))
theorem DN_le {d : Nat} (h : d ≤ 4) : DN d ≤ 2040 ∧ DM d ≤ 1021 := by
  obtain rfl | rfl | rfl | rfl | rfl : d = 0 ∨ d = 1 ∨ d = 2 ∨ d = 3 ∨ d = 4 := by omega
  all_goals decide
set_option maxRecDepth 100000 in
set_option maxHeartbeats 4000000 in
theorem l5Some_any {L : List UInt8} {k g : Nat} (top : Bool) {w : World} (h : RdD w g L k) (hk : k ≤ 90000000) :
    Calls Try.prog 186 #[.pointer (some ⟨g, 0, none⟩), .bool top] w (KDraw g L k 2040 4088 w) := by
  have hgw := h.lt
  have HR0 := hide h
  have HEND := hide (fun (W : World) (x : Kind) (vs : List Value) (fq : List Nat) (k' : Nat) (ho : OwC W x.cells vs fq) (hn : New W fq (w.heap.size + 1)) (hx : x.bulk ≤ 2040) (hk' : k' ≤ k + 4088) (hr : RdD W g L k') (hg : w.grownBy W (some g)) =>
    show KDraw g L k 2040 4088 w (.returned (.agg vs.toArray)) (putN W w.heap.size 0 vs) from by
      have hgr := setN_grown vs 0 (grown_refl W (some w.heap.size))
      have hno : w.heap.size ∉ fq := hn.out (by omega)
      have hb : Below w.heap.size W (putN W w.heap.size 0 vs) := below_of_grown hgr (Nat.le_refl _) hg.size
      exact ⟨x, vs, fq, k', rfl, ho.grown hgr hn.lt hno, (hn.grown hgr (fun b e => by injection e with e; subst e; exact hno)).mono (by omega), hx, hk', hr.low hb hgw, only_low hg hb (Nat.le_refl _)⟩)
  clear h
  go_enter Try.func186, Try.ntmps186
  go_upto_region 1 with fail
  generalize hw1 : w.alloc _ = w1
  have hb0 : Below w.heap.size w w1 := by rw [← hw1]; exact (Below.refl _ _).alloc (Nat.le_refl _) _
  have HZ := hide (show Row w1 w.heap.size 47 [.int .i64 0, .slice none 0 0, .slice none 0 0] from by rw [← hw1]; exact Row.new w _ _)
  have HR := hide (HR0.out.below hb0)
  have HG := hide (grownBy_below hb0 (some g))
  clear hw1 hb0 HR0
  go_wp2
  go_loopw [5] (fun i wr => ∃ (j k' : Nat), i = .int .i64 (j : Int) ∧ j ≤ 4 ∧ k' ≤ k + j * 1022 ∧ RdD wr g L k' ∧ w.grownBy wr (some g) ∧ Row wr w.heap.size 47 [.int .i64 0, .slice none 0 0, .slice none 0 0]) (fun i _ => 4 - (intOf i).toNat)
  case atStart => exact ⟨0, k, rfl, by omega, by omega, HR.out, HG.out, HZ.out⟩
  case round =>
    obtain ⟨j, k', rfl, hj, hk', hR, hG, hZ⟩ := hrel
    have HRr := hide hR
    have HGr := hide hG
    have HZr := hide hZ
    have lz := hZ.lt
    clear hR hG hZ HR HG HZ
    by_cases hj4 : j < 4
    · have hji : (j : Int) < 4 := by omega
      have HP := hide (pick_any HRr.out (n := 3) (by omega) (by omega) (by omega))
      go_wp2_with fail
      refine HP.out.mono ?_
      rintro e w5 ⟨r, rfl, hr3, h5, hg5⟩
      have HD := hide (show Calls Try.prog 226 #[.pointer (some ⟨g, 0, none⟩), .int .i64 (2 + (r : Int)), .bool top] w5 (KDraw g L (k' + 1) (DN (2 + r)) (DM (2 + r)) w5) from by
        have h := dKind_any (2 + r) (by omega) (by omega) L (k' + 1) g top w5 h5 (by have := (DN_le (show 2 + r ≤ 4 by omega)).2; omega)
        rw [show ((2 + r : Nat) : Int) = 2 + (r : Int) by omega] at h
        exact h)
      have hdn := DN_le (show 2 + r ≤ 4 by omega)
      have HG5 := hide (only_trans HGr.out hg5)
      have HZ5 := hide (HZr.out.grown hg5 (fun e => by injection e with e; omega))
      clear h5 hg5 HP HGr HZr HRr
      go_wp2_with fail
      refine HD.out.mono ?_
      rintro e w6 ⟨x, us, fq, k6, rfl, ho6, hn6, hx6, hk6, hr6, hg6⟩
      have HO6 := hide ho6
      have HN6 := hide (hn6.mono (show w.heap.size + 1 ≤ w5.heap.size from HZ5.out.lt))
      have HR6 := hide hr6
      have HG6 := hide (only_trans HG5.out hg6)
      have HZ6 := hide (HZ5.out.grown hg6 (fun e => by injection e with e; omega))
      have lz6 := HZ6.out.lt
      obtain ⟨B1, d1, B2, d2, f1, f2, rfl, k0, k1, k2, efq⟩ := ho6.oKind
      have hxb : x.bulk ≤ 1048576 := by omega
      clear ho6 hn6 hr6 hg6 k1 k2 efq HD HG5 HZ5
      go_upto_region 5 with fail
      generalize hw7 : World.alloc _ _ = w7
      have hbA : Below w6.heap.size w6 w7 := by rw [← hw7]; exact (Below.refl _ _).alloc (Nat.le_refl _) _
      have HB7 := hide (show Row w7 w6.heap.size 47 [.int .i64 x.sort, .slice B1 x.names.length d1, .slice B2 x.kids.length d2] from by rw [← hw7]; exact Row.new w6 _ _)
      have HO7 := hide (HO6.out.below hbA HN6.out.lt)
      have HN7 := hide (HN6.out.below hbA HN6.out.lt)
      have HR7 := hide (HR6.out.below hbA)
      have HG7 := hide (only_low HG6.out hbA (by omega))
      have HZ7 := hide (HZ6.out.below hbA lz6)
      have hs7 := hbA.size
      clear hw7 hbA HO6 HN6 HR6 HG6 HZ6
      have b0 := HB7.out.cell 0
      have b1 := HB7.out.cell 1
      have b2 := HB7.out.cell 2
      have lb7 := HB7.out.lt
      have HC := hide (specKindOk_any x _ fq w7 HO7.out HN7.out.lt hxb)
      go_wp2_with fail
      refine HC.out.mono ?_
      rintro e w8 ⟨rfl, hb8⟩
      have HB8 := hide (HB7.out.below hb8 lb7)
      have HO8 := hide (HO7.out.below hb8 HN7.out.lt)
      have HN8 := hide (HN7.out.below hb8 HN7.out.lt)
      have HR8 := hide (HR7.out.below hb8)
      have HG8 := hide (only_low HG7.out hb8 (by omega))
      have HZ8 := hide (HZ7.out.below hb8 (by omega))
      clear b0 b1 b2 hb8 HC HB7 HO7 HN7 HR7 HG7 HZ7
      have b0 := HB8.out.cell 0
      have b1 := HB8.out.cell 1
      have b2 := HB8.out.cell 2
      have lb8 := HB8.out.lt
      by_cases hok : x.ok
      · rw [tb_true hok]
        have z0 := HZ8.out.cell 0
        have y0 := HZ8.out.frozen 0
        have z1 := HZ8.out.cell 1
        have y1 := HZ8.out.frozen 1
        have z2 := HZ8.out.cell 2
        have y2 := HZ8.out.frozen 2
        have lz8 := HZ8.out.lt
        go_wp2
        refine bodyPost_ret (ret_row rfl _ _ w.heap.size 47 [.int .i64 x.sort, .slice B1 x.names.length d1, .slice B2 x.kids.length d2] (HZ8.out.setAll [.int .i64 x.sort, .slice B1 x.names.length d1, .slice B2 x.kids.length d2] rfl) _ rfl Try.underlying47 rfl (by kernel_rfl)) rfl ?_
        exact HEND.out w8 x _ fq k6 HO8.out HN8.out (by omega) (by omega) HR8.out HG8.out
      · rw [tb_false hok]
        go_wp2
        go_roundw
        case rel => exact ⟨j + 1, k6, by go_num, by omega, by omega, HR8.out, HG8.out, HZ8.out⟩
        case measure => simp [intOf]; omega
    · have hji : ¬ ((j : Int) < 4) := by omega
      have z0 := HZr.out.cell 0
      have y0 := HZr.out.frozen 0
      have z1 := HZr.out.cell 1
      have y1 := HZr.out.frozen 1
      have z2 := HZr.out.cell 2
      have y2 := HZr.out.frozen 2
      go_wp2
      refine bodyPost_ret (ret_row rfl _ _ w.heap.size 47 [.int .i64 5, .slice none 0 0, .slice none 0 0] (HZr.out.setAll [.int .i64 5, .slice none 0 0, .slice none 0 0] rfl) _ rfl Try.underlying47 rfl (by kernel_rfl)) rfl ?_
      exact HEND.out wr (.mk 5 [] []) _ [] k' (kleaf_ow _ 5 (by decide)) (New.nil _ _) (by decide) (by omega) HRr.out HGr.out
end Go.Proofs.Ytbjblchhenmgjaa
