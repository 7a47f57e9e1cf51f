/-
  EventUnpack of the reference. RecUnpack of the reference. EventUnpack of the program.
-/
import Derived.Test.YtbjblchhenmgjaaQpU
import Derived.Test.YtbjblchhenmgjaaQpV
import Derived.Test.YtbjblchhenmgjaaQpL
import Derived.Deep.RegionHeld3
import Derived.Deep.RegionWith
import Derived.Deep.RegionLaw
import Derived.Deep.CutRange
import Derived.Deep.DeepCutAuto
set_option linter.unusedVariables false
set_option linter.unusedSimpArgs false
namespace Go.Proofs.Ytbjblchhenmgjaa
open Go.ChangeShapes Go.WideShapes Go.ChangeAt Go.RowKit

set_option maxRecDepth 100000 in
set_option maxHeartbeats 4000000 in
theorem specEventUnpack_any (l : List UInt8) (A : Option Addr) (n c : Nat) (fp : List Nat) (w : World) (ho : Ow w (.s 1 l.length (l.flatMap byteC)) (.slice A n c) fp) (hf : Lt fp w.heap.size) (hsz : l.length ≤ 1048576) :
    Calls Try.prog 15 #[.slice A n c] w (UnpOut l w) := by
  obtain ⟨rfl, hnc, hcm⟩ := ho.nlen
  have HO := hide ho
  have HZ0 := hide (Row.new w 28 [.string .empty, .int .i64 0, .int .i64 0, .int .i64 0, .string .empty, .slice none 0 0, .slice none 0 0])
  have HB0 := hide (show Below w.heap.size w (w.alloc (.cells #[.string .empty, .int .i64 0, .int .i64 0, .int .i64 0, .string .empty, .slice none 0 0, .slice none 0 0] 28)) from (Below.refl _ _).alloc (Nat.le_refl _) _)
  clear ho
  go_enter Try.func15, Try.ntmps15
  by_cases hl : 9000 < l.length
  · have hli : (9000 : Int) < (l.length : Int) := by omega
    have HNO := hide (unpack_long hl)
    go_upto_region 1 with fail
    generalize hw1 : w.alloc _ = w1
    have HZ1 := hide (show Row w1 w.heap.size 28 [.string .empty, .int .i64 0, .int .i64 0, .int .i64 0, .string .empty, .slice none 0 0, .slice none 0 0] from by rw [← hw1]; exact HZ0.out)
    have HB1 := hide (show Below w.heap.size w w1 from by rw [← hw1]; exact HB0.out)
    clear hw1
    have z0 := HZ1.out.cell 0
    have z1 := HZ1.out.cell 1
    have z2 := HZ1.out.cell 2
    have z3 := HZ1.out.cell 3
    have z4 := HZ1.out.cell 4
    have z5 := HZ1.out.cell 5
    have z6 := HZ1.out.cell 6
    have zf0 := HZ1.out.frozen 0
    have zf1 := HZ1.out.frozen 1
    have zf2 := HZ1.out.frozen 2
    have zf3 := HZ1.out.frozen 3
    have zf4 := HZ1.out.frozen 4
    have zf5 := HZ1.out.frozen 5
    have zf6 := HZ1.out.frozen 6
    have zlt := HZ1.out.lt
    clear hl
    go_wp2
    refine bodyPost_ret (ret_row_tmp rfl _ _ w.heap.size 28 [.string .empty, .int .i64 0, .int .i64 0, .int .i64 0, .string .empty, .slice none 0 0, .slice none 0 0] (HZ1.out.setAll [.string .empty, .int .i64 0, .int .i64 0, .int .i64 0, .string .empty, .slice none 0 0, .slice none 0 0] rfl) _ (.bool false) rfl rfl Try.underlying28 rfl (by kernel_rfl)) rfl ?_
    exact ⟨_, [], by rw [HNO.out.2], by rw [HNO.out.1]; exact (unp_none HB1.out [.string .empty, .int .i64 0, .int .i64 0, .int .i64 0, .string .empty, .slice none 0 0, .slice none 0 0]).1, (unp_none HB1.out [.string .empty, .int .i64 0, .int .i64 0, .int .i64 0, .string .empty, .slice none 0 0, .slice none 0 0]).2⟩

  have hli : ¬ ((9000 : Int) < (l.length : Int)) := by omega
  have hl9 : l.length ≤ 9000 := by omega
  clear hl
  go_upto_region 4 with fail
  generalize hw3 : (w.alloc _).alloc _ = w3
  have hB13 : Below (w.heap.size + 1) (w.alloc (.cells #[.string .empty, .int .i64 0, .int .i64 0, .int .i64 0, .string .empty, .slice none 0 0, .slice none 0 0] 28)) w3 := by rw [← hw3]; exact (Below.refl _ _).alloc (by simp) _
  have HZ3 := hide (HZ0.out.below hB13 (Nat.lt_succ_self _))
  have HB3 := hide (HB0.out.trans (hB13.mono (Nat.le_succ _)))
  have HR3 : Hid (RdS w3 (w.heap.size + 1) l l false) := hide ⟨A, c, 0, fp, by rw [← hw3]; exact Row.atU _ _ _ _ (by simp), HO.out.below HB3.out hf, hf.mono (Nat.le_succ _), Nat.zero_le _, hl9, rfl⟩
  have lt3 := HR3.out.lt
  clear hB13 hw3
  go_wp2_with fail
  refine (shortS_any HR3.out).mono ?_
  rintro e w4 ⟨s, l1, bd1, rfl, hs, h4, hg4, hok1⟩
  have lt4 := Nat.lt_of_lt_of_le lt3 hg4.size
  have HZ4 := hide (HZ3.out.grown hg4 (fun e => by injection e with e; omega))
  have HB4 := hide (HB3.out.trans (below_of_grown hg4 (Nat.le_succ _) HB3.out.size))
  have HK1 := hide hok1
  go_upto_region 5 with fail
  generalize hw5 : w4.alloc _ = w5
  have hB5 : Below w4.heap.size w4 w5 := by rw [← hw5]; exact (Below.refl _ _).alloc (Nat.le_refl _) _
  have HX5 : Hid (Row w5 w4.heap.size 28 [.string s, .int .i64 0, .int .i64 0, .int .i64 0, .string .empty, .slice none 0 0, .slice none 0 0]) := hide (by rw [← hw5]; exact Row.new w4 _ _)
  have HZ5 := hide (HZ4.out.below hB5 HZ4.out.lt)
  have HB5 := hide (HB4.out.trans (hB5.mono (Nat.le_of_lt HZ4.out.lt)))
  have HR5 := hide (h4.below hB5)
  have lt5 := HX5.out.lt
  clear hB5 hw5 h4 hg4 hok1 HR3 HZ3 HZ4
  go_wp2_with fail
  refine (oneS_any HR5.out).mono ?_
  rintro e w6 ⟨v, l2, bd2, rfl, hv0, hv1, h6, hg6, hok2⟩
  have lt6 := Nat.lt_of_lt_of_le lt5 hg6.size
  have HZ6 := hide (HZ5.out.grown hg6 (fun e => by injection e with e; omega))
  have HX6 := hide (HX5.out.grown hg6 (fun e => by injection e with e; omega))
  have HB6 := hide (HB5.out.trans (below_of_grown hg6 (Nat.le_succ _) HB5.out.size))
  have HK2 := hide hok2
  have q1 := HX6.out.cell 1
  have f1 := HX6.out.frozen 1
  have hb7 : Below w4.heap.size w6 (w6.setCell ⟨w4.heap.size, 1, none⟩ (.int .i64 v)) := (Below.refl _ _).setCell (p := ⟨w4.heap.size, 1, none⟩) (Nat.le_refl _) _
  have HX7 := hide (HX6.out.set 1 (.int .i64 v))
  have HZ7 := hide (HZ6.out.below hb7 (by omega))
  have HB7 := hide (HB6.out.trans (hb7.mono (by omega)))
  have HR7 := hide (h6.low hb7 lt4)
  have HTR := hide (show Calls Try.prog 76 #[.pointer (some ⟨w.heap.size + 1, 0, none⟩), .int .i64 1] (w6.setCell ⟨w4.heap.size, 1, none⟩ (.int .i64 v)) (TreeOut RdS (w.heap.size + 1) l bd2 (pTree false 6 l2) (w6.setCell ⟨w4.heap.size, 1, none⟩ (.int .i64 v))) from treeRdS_any 6 l l2 bd2 (w.heap.size + 1) 1 _ rfl (Nat.le_refl _) HR7.out)
  clear h6 hg6 hok2 hb7 HR5 HZ5 HX5
  go_wp2_with fail
  refine HTR.out.mono ?_
  rintro e w8 ⟨t, us, fq, l3, bd3, rfl, ho8, hn8, h8, hg8, hok3⟩
  have hs8 : w6.heap.size ≤ w8.heap.size := by have := hg8.size; simpa using this
  have HZ8 := hide (HZ7.out.grown hg8 (fun e => by injection e with e; omega))
  have HX8 := hide (HX7.out.grown hg8 (fun e => by injection e with e; omega))
  have HB8 := hide (HB7.out.trans (below_of_grown hg8 (Nat.le_succ _) HB7.out.size))
  have HKE := hide (okr_event HK1.out HK2.out hok3)
  have HO8 := hide ho8
  obtain ⟨E1, e1, E2, e2, f1, f2, rfl, -, -, -, -, -, -⟩ := HO8.out.oTree
  have hX := UnpAt.make (s := s) (v := v) HO8.out (hn8.mono (by rw [show (w6.setCell ⟨w4.heap.size, 1, none⟩ (.int .i64 v)).heap.size = w6.heap.size by simp [World.setCell]]; omega)) (by omega) (by unfold maxLen; omega) (wfi (by omega) (by omega)) HZ8.out HX8.out HB8.out
  have HX := hide hX
  have g2 := HX8.out.cell 2
  have g3 := HX8.out.cell 3
  have g4 := HX8.out.cell 4
  have g5 := HX8.out.cell 5
  have g6 := HX8.out.cell 6
  have gf2 := HX8.out.frozen 2
  have gf3 := HX8.out.frozen 3
  have gf4 := HX8.out.frozen 4
  have gf5 := HX8.out.frozen 5
  have gf6 := HX8.out.frozen 6
  have HR8 := hide h8
  clear hX ho8 HO8 hn8 h8 hg8 hok3 HK1 HK2 HR7 HZ7 HX7 HZ6 HX6 q1 f1 HTR
  go_upto_region 7 with fail
  generalize hwq : ((((World.setCell w8 ⟨w4.heap.size, 2, none⟩ (.int .i64 t.sort)).setCell ⟨w4.heap.size, 3, none⟩ (.int .i64 t.num)).setCell ⟨w4.heap.size, 4, none⟩ (.string t.text)).setCell ⟨w4.heap.size, 5, none⟩ (.slice E1 t.names.length e1)).setCell ⟨w4.heap.size, 6, none⟩ (.slice E2 t.kids.length e2) = wq
  have HXQ := hide (show UnpAt w wq w4.heap.size ⟨s, v, t⟩ [.string s, .int .i64 v, .int .i64 t.sort, .int .i64 t.num, .string t.text, .slice E1 t.names.length e1, .slice E2 t.kids.length e2] fq from by rw [← hwq]; exact HX.out)
  have hbq : Below w4.heap.size w8 wq := by rw [← hwq]; exact below_of_grown (setN_grown [.int .i64 t.sort, .int .i64 t.num, .string t.text, .slice E1 t.names.length e1, .slice E2 t.kids.length e2] 2 (grown_refl w8 (some w4.heap.size))) (Nat.le_refl _) (Nat.le_of_lt HX8.out.lt)
  obtain ⟨A', c', n', fp', hr', -, -, hn', -, hl3⟩ := HR8.out.low hbq lt4
  have r1 := hr'.cell 1
  have r2 := hr'.cell 2
  have lr := hr'.lt
  clear hr' hbq hwq HX g2 g3 g4 g5 g6 gf2 gf3 gf4 gf5 gf6 HR8 HX8 HZ8 HB8
  by_cases hb3 : bd3 = true
  · subst hb3
    have HNO := hide (unpack_gone HKE.out (.inl rfl))
    have z0 := HXQ.out.zero.cell 0
    have z1 := HXQ.out.zero.cell 1
    have z2 := HXQ.out.zero.cell 2
    have z3 := HXQ.out.zero.cell 3
    have z4 := HXQ.out.zero.cell 4
    have z5 := HXQ.out.zero.cell 5
    have z6 := HXQ.out.zero.cell 6
    have zf0 := HXQ.out.zero.frozen 0
    have zf1 := HXQ.out.zero.frozen 1
    have zf2 := HXQ.out.zero.frozen 2
    have zf3 := HXQ.out.zero.frozen 3
    have zf4 := HXQ.out.zero.frozen 4
    have zf5 := HXQ.out.zero.frozen 5
    have zf6 := HXQ.out.zero.frozen 6
    have zlt := HXQ.out.zero.lt
    clear hl3
    go_wp2
    refine bodyPost_ret (ret_row_tmp rfl _ _ w.heap.size 28 [.string .empty, .int .i64 0, .int .i64 0, .int .i64 0, .string .empty, .slice none 0 0, .slice none 0 0] (HXQ.out.zero.setAll [.string .empty, .int .i64 0, .int .i64 0, .int .i64 0, .string .empty, .slice none 0 0, .slice none 0 0] rfl) _ (.bool false) rfl rfl Try.underlying28 rfl (by kernel_rfl)) rfl ?_
    exact ⟨_, [], by rw [HNO.out.2], by rw [HNO.out.1]; exact (unp_none HXQ.out.below [.string .empty, .int .i64 0, .int .i64 0, .int .i64 0, .string .empty, .slice none 0 0, .slice none 0 0]).1, (unp_none HXQ.out.below [.string .empty, .int .i64 0, .int .i64 0, .int .i64 0, .string .empty, .slice none 0 0, .slice none 0 0]).2⟩
  obtain rfl : bd3 = false := by simpa using hb3
  by_cases hn9 : n' = l.length
  rotate_left
  · have hnI : ¬ ((n' : Int) = (l.length : Int)) := by omega
    have HNO := hide (unpack_gone HKE.out (.inr (fun e => by rw [e] at hl3; have h := congrArg List.length hl3; simp only [List.length_nil, List.length_drop] at h; omega)))
    have z0 := HXQ.out.zero.cell 0
    have z1 := HXQ.out.zero.cell 1
    have z2 := HXQ.out.zero.cell 2
    have z3 := HXQ.out.zero.cell 3
    have z4 := HXQ.out.zero.cell 4
    have z5 := HXQ.out.zero.cell 5
    have z6 := HXQ.out.zero.cell 6
    have zf0 := HXQ.out.zero.frozen 0
    have zf1 := HXQ.out.zero.frozen 1
    have zf2 := HXQ.out.zero.frozen 2
    have zf3 := HXQ.out.zero.frozen 3
    have zf4 := HXQ.out.zero.frozen 4
    have zf5 := HXQ.out.zero.frozen 5
    have zf6 := HXQ.out.zero.frozen 6
    have zlt := HXQ.out.zero.lt
    clear hl3 hn9
    go_wp2
    refine bodyPost_ret (ret_row_tmp rfl _ _ w.heap.size 28 [.string .empty, .int .i64 0, .int .i64 0, .int .i64 0, .string .empty, .slice none 0 0, .slice none 0 0] (HXQ.out.zero.setAll [.string .empty, .int .i64 0, .int .i64 0, .int .i64 0, .string .empty, .slice none 0 0, .slice none 0 0] rfl) _ (.bool false) rfl rfl Try.underlying28 rfl (by kernel_rfl)) rfl ?_
    exact ⟨_, [], by rw [HNO.out.2], by rw [HNO.out.1]; exact (unp_none HXQ.out.below [.string .empty, .int .i64 0, .int .i64 0, .int .i64 0, .string .empty, .slice none 0 0, .slice none 0 0]).1, (unp_none HXQ.out.below [.string .empty, .int .i64 0, .int .i64 0, .int .i64 0, .string .empty, .slice none 0 0, .slice none 0 0]).2⟩
  have hnI : (n' : Int) = (l.length : Int) := by omega
  obtain rfl : l3 = [] := by rw [hl3, hn9]; exact List.drop_length
  have HBK := hide (okr_bulk HKE.out)
  have HE := hide (specEventOk_any ⟨s, v, t⟩ _ _ wq HXQ.out.ow HXQ.out.new.lt (by have := HBK.out; omega))
  have b0 := HXQ.out.box.cell 0
  have b1 := HXQ.out.box.cell 1
  have b2 := HXQ.out.box.cell 2
  have b3 := HXQ.out.box.cell 3
  have b4 := HXQ.out.box.cell 4
  have b5 := HXQ.out.box.cell 5
  have b6 := HXQ.out.box.cell 6
  have blt := HXQ.out.box.lt
  clear hl3 hn9 hb3
  go_wp2_with fail
  refine HE.out.mono ?_
  rintro e w9 ⟨rfl, hb9⟩
  have HX9 := hide (HXQ.out.step hb9)
  clear hb9 HE b0 b1 b2 b3 b4 b5 b6 blt
  by_cases hok : (⟨s, v, t⟩ : Event).ok
  rotate_left
  · rw [tb_false hok]
    have HNO := hide (unpack_left HKE.out (fun h => hok h.1))
    have z0 := HX9.out.zero.cell 0
    have z1 := HX9.out.zero.cell 1
    have z2 := HX9.out.zero.cell 2
    have z3 := HX9.out.zero.cell 3
    have z4 := HX9.out.zero.cell 4
    have z5 := HX9.out.zero.cell 5
    have z6 := HX9.out.zero.cell 6
    have zf0 := HX9.out.zero.frozen 0
    have zf1 := HX9.out.zero.frozen 1
    have zf2 := HX9.out.zero.frozen 2
    have zf3 := HX9.out.zero.frozen 3
    have zf4 := HX9.out.zero.frozen 4
    have zf5 := HX9.out.zero.frozen 5
    have zf6 := HX9.out.zero.frozen 6
    have zlt := HX9.out.zero.lt
    clear hok
    go_wp2
    refine bodyPost_ret (ret_row_tmp rfl _ _ w.heap.size 28 [.string .empty, .int .i64 0, .int .i64 0, .int .i64 0, .string .empty, .slice none 0 0, .slice none 0 0] (HX9.out.zero.setAll [.string .empty, .int .i64 0, .int .i64 0, .int .i64 0, .string .empty, .slice none 0 0, .slice none 0 0] rfl) _ (.bool false) rfl rfl Try.underlying28 rfl (by kernel_rfl)) rfl ?_
    exact ⟨_, [], by rw [HNO.out.2], by rw [HNO.out.1]; exact (unp_none HX9.out.below [.string .empty, .int .i64 0, .int .i64 0, .int .i64 0, .string .empty, .slice none 0 0, .slice none 0 0]).1, (unp_none HX9.out.below [.string .empty, .int .i64 0, .int .i64 0, .int .i64 0, .string .empty, .slice none 0 0, .slice none 0 0]).2⟩
  rw [tb_true hok]
  have HP := hide (specEventPack_any ⟨s, v, t⟩ _ _ w9 HX9.out.ow HX9.out.new.lt (by have := HBK.out; omega))
  have HK := hide hok
  clear hok
  have b0 := HX9.out.box.cell 0
  have b1 := HX9.out.box.cell 1
  have b2 := HX9.out.box.cell 2
  have b3 := HX9.out.box.cell 3
  have b4 := HX9.out.box.cell 4
  have b5 := HX9.out.box.cell 5
  have b6 := HX9.out.box.cell 6
  have blt := HX9.out.box.lt
  go_wp2_with fail
  refine HP.out.mono ?_
  rintro e w10 ⟨v', rfl, hv', hb10⟩
  obtain ⟨fpv, hov, hnv⟩ := hv'.toOw
  obtain ⟨A2, c2, rfl, _, _⟩ := hov.slice
  have HX10 := hide (HX9.out.step hb10)
  have HS := hide (l4Same_any (Event.packed ⟨s, v, t⟩) l A2 A c2 c w10 (hov.bytesAt hnv.lt) ((HO.out.below HX10.out.below hf).bytesAt (hf.up HX10.out.below)))
  have HPK := hide (Event.packed_yes HK.out)
  clear hb10 hv' hov hnv HP b0 b1 b2 b3 b4 b5 b6 blt
  go_wp2_with fail
  refine HS.out.mono ?_
  rintro e w11 ⟨rfl, rfl⟩
  by_cases hsm : Event.packed ⟨s, v, t⟩ = l
  · rw [tb_true hsm]
    have HY := hide (unpack_back (x := ⟨s, v, t⟩) hl9 HK.out (HPK.out.symm.trans hsm))
    clear hsm
    have z0 := HX10.out.zero.cell 0
    have z1 := HX10.out.zero.cell 1
    have z2 := HX10.out.zero.cell 2
    have z3 := HX10.out.zero.cell 3
    have z4 := HX10.out.zero.cell 4
    have z5 := HX10.out.zero.cell 5
    have z6 := HX10.out.zero.cell 6
    have zf0 := HX10.out.zero.frozen 0
    have zf1 := HX10.out.zero.frozen 1
    have zf2 := HX10.out.zero.frozen 2
    have zf3 := HX10.out.zero.frozen 3
    have zf4 := HX10.out.zero.frozen 4
    have zf5 := HX10.out.zero.frozen 5
    have zf6 := HX10.out.zero.frozen 6
    have zlt := HX10.out.zero.lt
    have b0 := HX10.out.box.cell 0
    have b1 := HX10.out.box.cell 1
    have b2 := HX10.out.box.cell 2
    have b3 := HX10.out.box.cell 3
    have b4 := HX10.out.box.cell 4
    have b5 := HX10.out.box.cell 5
    have b6 := HX10.out.box.cell 6
    have blt := HX10.out.box.lt
    go_wp2
    refine bodyPost_ret (ret_row_tmp rfl _ _ w.heap.size 28 [.string s, .int .i64 v, .int .i64 t.sort, .int .i64 t.num, .string t.text, .slice E1 t.names.length e1, .slice E2 t.kids.length e2] (HX10.out.zero.setAll [.string s, .int .i64 v, .int .i64 t.sort, .int .i64 t.num, .string t.text, .slice E1 t.names.length e1, .slice E2 t.kids.length e2] rfl) _ (.bool true) rfl rfl Try.underlying28 rfl (by kernel_rfl)) rfl ?_
    exact ⟨_, fq, by rw [HY.out.2], by rw [HY.out.1]; exact (HX10.out.fin [.string s, .int .i64 v, .int .i64 t.sort, .int .i64 t.num, .string t.text, .slice E1 t.names.length e1, .slice E2 t.kids.length e2]).1, (HX10.out.fin [.string s, .int .i64 v, .int .i64 t.sort, .int .i64 t.num, .string t.text, .slice E1 t.names.length e1, .slice E2 t.kids.length e2]).2⟩
  · rw [tb_false hsm]
    have HNO := hide (unpack_left HKE.out (fun h => hsm (HPK.out.trans h.2)))
    clear hsm
    have z0 := HX10.out.zero.cell 0
    have z1 := HX10.out.zero.cell 1
    have z2 := HX10.out.zero.cell 2
    have z3 := HX10.out.zero.cell 3
    have z4 := HX10.out.zero.cell 4
    have z5 := HX10.out.zero.cell 5
    have z6 := HX10.out.zero.cell 6
    have zf0 := HX10.out.zero.frozen 0
    have zf1 := HX10.out.zero.frozen 1
    have zf2 := HX10.out.zero.frozen 2
    have zf3 := HX10.out.zero.frozen 3
    have zf4 := HX10.out.zero.frozen 4
    have zf5 := HX10.out.zero.frozen 5
    have zf6 := HX10.out.zero.frozen 6
    have zlt := HX10.out.zero.lt
    go_wp2
    refine bodyPost_ret (ret_row_tmp rfl _ _ w.heap.size 28 [.string .empty, .int .i64 0, .int .i64 0, .int .i64 0, .string .empty, .slice none 0 0, .slice none 0 0] (HX10.out.zero.setAll [.string .empty, .int .i64 0, .int .i64 0, .int .i64 0, .string .empty, .slice none 0 0, .slice none 0 0] rfl) _ (.bool false) rfl rfl Try.underlying28 rfl (by kernel_rfl)) rfl ?_
    exact ⟨_, [], by rw [HNO.out.2], by rw [HNO.out.1]; exact (unp_none HX10.out.below [.string .empty, .int .i64 0, .int .i64 0, .int .i64 0, .string .empty, .slice none 0 0, .slice none 0 0]).1, (unp_none HX10.out.below [.string .empty, .int .i64 0, .int .i64 0, .int .i64 0, .string .empty, .slice none 0 0, .slice none 0 0]).2⟩
end Go.Proofs.Ytbjblchhenmgjaa
namespace Go.Proofs.Ytbjblchhenmgjaa
open Go.ChangeShapes Go.WideShapes Go.ChangeAt Go.RowKit

theorem info_Event' : (Try.prog.info? 28).map (fun i => (i.zero, i.size, i.bytes)) = some (some (.agg #[.string .empty, .int .i64 0, .int .i64 0, .int .i64 0, .string .empty, .slice none 0 0, .slice none 0 0]), 7, 104) := by kernel_rfl
set_option maxRecDepth 100000 in
set_option maxHeartbeats 4000000 in
theorem specRecUnpack_any (p : Int) (s : ByteArray) (w : World) (hp : (Lit.int .i64 p).wf = true) (hs : s.size ≤ 1048576) :
    Calls Try.prog 23 #[.int .i64 p, .string s] w (RecOut p s w) := by
  have HZ0 := hide (Row.new w 39 [.int .i64 0, .string .empty, .slice none 0 0])
  have HB0 := hide (show Below w.heap.size w (w.alloc (.cells #[.int .i64 0, .string .empty, .slice none 0 0] 39)) from (Below.refl _ _).alloc (Nat.le_refl _) _)
  have HP := hide hp
  clear hp
  by_cases hl : 2000 < s.size
  · have hli : (2000 : Int) < (s.size : Int) := by omega
    have HNO := hide (unrec_long (p := p) hl)
    clear hl
    go_enter Try.func23, Try.ntmps23
    go_upto_region 1 with fail
    generalize hw1 : w.alloc _ = w1
    have HZ1 := hide (show Row w1 w.heap.size 39 [.int .i64 0, .string .empty, .slice none 0 0] from by rw [← hw1]; exact HZ0.out)
    have HB1 := hide (show Below w.heap.size w w1 from by rw [← hw1]; exact HB0.out)
    clear hw1
    have z0 := HZ1.out.cell 0
    have zf0 := HZ1.out.frozen 0
    have z1 := HZ1.out.cell 1
    have zf1 := HZ1.out.frozen 1
    have z2 := HZ1.out.cell 2
    have zf2 := HZ1.out.frozen 2
    have zlt := HZ1.out.lt
    go_wp2
    refine bodyPost_ret (ret_row_tmp rfl _ _ w.heap.size 39 [.int .i64 0, .string .empty, .slice none 0 0] (HZ1.out.setAll [.int .i64 0, .string .empty, .slice none 0 0] rfl) _ (.bool false) rfl rfl Try.underlying39 rfl (by kernel_rfl)) rfl ?_
    exact ⟨_, [], by rw [HNO.out.2], by rw [HNO.out.1]; exact (recNone HB1.out [.int .i64 0, .string .empty, .slice none 0 0]).1, (recNone HB1.out [.int .i64 0, .string .empty, .slice none 0 0]).2⟩
  have hli : ¬ ((2000 : Int) < (s.size : Int)) := by omega
  have hl2 : s.size ≤ 2000 := by omega
  have hL : s.data.toList.length = s.size := by rw [Array.length_toList]; rfl
  have HL := hide hL
  have HST := rdS_start (w.alloc (.cells #[.int .i64 0, .string .empty, .slice none 0 0] 39)) s hl2 (w.heap.size + 1 + 1) (by simp)
  rw [World.size_alloc] at HST
  have HST := hide HST
  clear hl hL
  have hcv := fun (u : World) => Lib.run_convert_string_bytes (P := Try.prog) u 9 22 5 s Try.underlying9 Try.underlying22 Try.underlying5
  have hbs := fun (u : World) => Lib.bytesWorld_size u 5 s
  go_enter Try.func23, Try.ntmps23
  go_upto_region 4 with fail
  generalize hwx : World.alloc (Lib.bytesWorld _ _ _) _ = w3
  generalize grownCap _ _ _ _ = cap
  generalize hg : w.heap.size + 1 + 1 = g
  have hS : RdS w3 g s.data.toList s.data.toList false ∧ Below (w.heap.size + 1) (w.alloc (.cells #[.int .i64 0, .string .empty, .slice none 0 0] 39)) w3 := by rw [← hwx, ← hg]; exact HST.out
  have HR3 := hide hS.1
  have HB3 := hide (HB0.out.trans (hS.2.mono (Nat.le_succ _)))
  have HZ3 := hide (HZ0.out.below hS.2 (Nat.lt_succ_self _))
  have lt3 := HR3.out.lt
  have hg1 : w.heap.size < g := by omega
  clear HST hS hwx hcv hbs hg
  go_wp2_with fail
  refine (shortS_any HR3.out).mono ?_
  rintro e w4 ⟨key, l1, bd1, rfl, hk, h4, hg4, hok1⟩
  have lt4 := Nat.lt_of_lt_of_le lt3 hg4.size
  have HZ4 := hide (HZ3.out.grown hg4 (fun e => by injection e with e; omega))
  have HB4 := hide (HB3.out.trans (below_of_grown hg4 (Nat.le_of_lt hg1) HB3.out.size))
  have HK1 := hide hok1
  go_upto_region 5 with fail
  generalize hw5 : World.alloc w4 _ = w5
  have hB5 : Below w4.heap.size w4 w5 := by rw [← hw5]; exact (Below.refl _ _).alloc (Nat.le_refl _) _
  have HX5 := hide (show RecAt w w5 w4.heap.size p key (.slice none 0 0) [] [] [] from ⟨HZ4.out.below hB5 HZ4.out.lt, by rw [← hw5]; exact Row.new w4 _ _, OwS.nil _ _ _ _ _, HB4.out.trans (hB5.mono HB4.out.size), Nat.lt_trans hg1 lt4⟩)
  have HR5 := hide (h4.below hB5)
  clear hB5 hw5 h4 hg4 hok1 HR3 HZ3 HZ4 HB3 HB4
  go_wp2_with fail
  refine (oneS_any HR5.out).mono ?_
  rintro e w6 ⟨n, l2, bd2, rfl, hn0, hn1, h6, hg6, hok2⟩
  obtain ⟨n, rfl⟩ : ∃ m : Nat, n = (m : Int) := ⟨n.toNat, by omega⟩
  have HQ := hide (PartsAt.start HK1.out hok2)
  have HX6 := hide (HX5.out.far hg6 hg1 lt4)
  have HR6 := hide h6
  clear h6 hg6 hok2 HK1 HX5 HR5
  go_wp2
  go_loopw [8] (fun kv wr => ∃ (k : Nat) (es : List Event) (v : Value) (us : List Value) (fi : List Nat) (l : List UInt8) (b : Bool), kv = .int .i64 (k : Int) ∧ k + es.length ≤ 255 ∧ Event.bulkS es ≤ 2000 * es.length ∧ RecAt w wr w4.heap.size p key v es us fi ∧ RdS wr g s.data.toList l b ∧ PartsAt s.data.toList key b k es l) (fun kv _ => (intOf kv).toNat)
  case atStart => exact ⟨n, [], _, [], [], l2, bd2, rfl, by simp; omega, by simp [Event.bulkS], HX6.out, HR6.out, HQ.out⟩
  case round =>
    obtain ⟨k, es, v, us, fi, l, b, rfl, hke, hbk, hx, hr, hq⟩ := hrel
    have HX := hide hx
    have HR := hide hr
    have HPA := hide hq
    have HKE := hide hke
    have HBK := hide hbk
    obtain ⟨hbc, hbf⟩ := hr.bad
    have lg := hr.lt
    clear hx hr hq HX6 HR6 HQ hke hbk
    by_cases hbb : b = true
    · subst hbb
      have HNO := hide (unrec_gone (p := p) (HPA.out.2 rfl))
      have z0 := HX.out.zero.cell 0
      have zf0 := HX.out.zero.frozen 0
      have z1 := HX.out.zero.cell 1
      have zf1 := HX.out.zero.frozen 1
      have z2 := HX.out.zero.cell 2
      have zf2 := HX.out.zero.frozen 2
      have zlt := HX.out.zero.lt
      go_wp2
      all_goals
        refine bodyPost_ret (ret_row_tmp rfl _ _ w.heap.size 39 [.int .i64 0, .string .empty, .slice none 0 0] (HX.out.zero.setAll [.int .i64 0, .string .empty, .slice none 0 0] rfl) _ (.bool false) rfl rfl Try.underlying39 rfl (by kernel_rfl)) rfl ?_
        exact ⟨_, [], by rw [HNO.out.2], by rw [HNO.out.1]; exact (recNone HX.out.below [.int .i64 0, .string .empty, .slice none 0 0]).1, (recNone HX.out.below [.int .i64 0, .string .empty, .slice none 0 0]).2⟩
    obtain rfl : b = false := by simpa using hbb
    clear hbb
    by_cases hk0 : k = 0
    · subst hk0
      have HLF := hide HPA
      obtain ⟨fq, hxo, hxn⟩ := HX.out.ow HP.out (show key.size ≤ maxLen from by unfold maxLen; omega)
      obtain ⟨A1, c1, rfl⟩ := HX.out.evs.form
      have HXO := hide hxo
      have HXN := hide hxn
      have HRP := hide (specRecPack_any ⟨p, key, es⟩ _ _ wr hxo hxn.lt (by have h1 := HBK.out; have h2 := HKE.out; show key.size + (es.length + Event.bulkS es) ≤ _; omega))
      have x0 := HX.out.box.cell 0
      have x1 := HX.out.box.cell 1
      have x2 := HX.out.box.cell 2
      have xl := HX.out.box.lt
      clear hxo hxn
      go_wp2_with fail
      refine HRP.out.mono ?_
      rintro e w7 ⟨rfl, hb7⟩
      obtain ⟨pk, hpk⟩ : ∃ pk, Record.packed ⟨p, key, es⟩ = pk := ⟨_, rfl⟩
      rw [hpk]
      have HPK := hide hpk
      have HX7 := hide (HX.out.step hb7)
      have HF := hide (fun vs => recFin (vs := vs) HX7.out.zero HX7.out.below (HXO.out.below hb7 HXN.out.lt) ((HXN.out.below hb7 HXN.out.lt).mono (by have := HX7.out.ord; omega)))
      clear hpk hb7 HRP x0 x1 x2 xl
      have z0 := HX7.out.zero.cell 0
      have zf0 := HX7.out.zero.frozen 0
      have z1 := HX7.out.zero.cell 1
      have zf1 := HX7.out.zero.frozen 1
      have z2 := HX7.out.zero.cell 2
      have zf2 := HX7.out.zero.frozen 2
      have zlt := HX7.out.zero.lt
      have x0 := HX7.out.box.cell 0
      have x1 := HX7.out.box.cell 1
      have x2 := HX7.out.box.cell 2
      have xl := HX7.out.box.lt
      by_cases hpe : pk = s
      · subst hpe
        by_cases hse : pk.toList.isEmpty = true
        · have HNO := hide (show unrecR p pk = Record.none_ ∧ unrecB p pk = false from by rw [txt_nil (List.isEmpty_iff.1 hse)]; exact unrec_empty)
          go_wp2
          refine bodyPost_ret (ret_row_tmp rfl _ _ w.heap.size 39 [.int .i64 0, .string .empty, .slice none 0 0] (HX7.out.zero.setAll [.int .i64 0, .string .empty, .slice none 0 0] rfl) _ (.bool false) rfl rfl Try.underlying39 rfl (by kernel_rfl)) rfl ?_
          exact ⟨_, [], by rw [HNO.out.2], by rw [HNO.out.1]; exact (recNone HX7.out.below [.int .i64 0, .string .empty, .slice none 0 0]).1, (recNone HX7.out.below [.int .i64 0, .string .empty, .slice none 0 0]).2⟩
        · have HY := hide (unrec_back (p := p) (s := pk) (x := ⟨p, key, es⟩) rfl (fun e => hse (by rw [e, ByteArray.toList_eq]; rfl)) HPK.out)
          go_wp2
          refine bodyPost_ret (ret_row_tmp rfl _ _ w.heap.size 39 [.int .i64 p, .string key, .slice A1 es.length c1] (HX7.out.zero.setAll [.int .i64 p, .string key, .slice A1 es.length c1] rfl) _ (.bool true) rfl rfl Try.underlying39 rfl (by kernel_rfl)) rfl ?_
          exact ⟨_, fq, by rw [HY.out.2], by rw [HY.out.1]; exact (HF.out [.int .i64 p, .string key, .slice A1 es.length c1]).1, (HF.out [.int .i64 p, .string key, .slice A1 es.length c1]).2⟩
      · have hpl : ¬ pk.toList = s.toList := fun e => hpe (txt_inj e)
        have HNO := hide (unrec_left HLF.out (fun e => hpe (HPK.out.symm.trans e)))
        clear hpe
        go_wp2
        refine bodyPost_ret (ret_row_tmp rfl _ _ w.heap.size 39 [.int .i64 0, .string .empty, .slice none 0 0] (HX7.out.zero.setAll [.int .i64 0, .string .empty, .slice none 0 0] rfl) _ (.bool false) rfl rfl Try.underlying39 rfl (by kernel_rfl)) rfl ?_
        exact ⟨_, [], by rw [HNO.out.2], by rw [HNO.out.1]; exact (recNone HX7.out.below [.int .i64 0, .string .empty, .slice none 0 0]).1, (recNone HX7.out.below [.int .i64 0, .string .empty, .slice none 0 0]).2⟩
    obtain ⟨k, rfl⟩ : ∃ k', k = k' + 1 := ⟨k - 1, by omega⟩
    clear hk0
    go_wp2_with fail
    refine (oneS_any HR.out).mono ?_
    rintro e w7 ⟨a, l3, b3, rfl, ha0, ha1, h7, hg7, hok7⟩
    obtain ⟨a, rfl⟩ : ∃ m : Nat, a = (m : Int) := ⟨a.toNat, by omega⟩
    have HX7 := hide (HX.out.far hg7 hg1 lt4)
    have HR7 := hide h7
    have HK7 := hide hok7
    clear h7 hg7 hok7 hbc hbf lg
    go_wp2_with fail
    refine (oneS_any HR7.out).mono ?_
    rintro e w8 ⟨c, l4, b4, rfl, hc0, hc1, h8, hg8, hok8⟩
    obtain ⟨c, rfl⟩ : ∃ m : Nat, c = (m : Int) := ⟨c.toNat, by omega⟩
    have HX8 := hide (HX7.out.far hg8 hg1 lt4)
    have HK8 := hide hok8
    obtain ⟨A', c', n', fp', hr8, -, -, hn8, -, hl4⟩ := id h8
    have HR8 := hide h8
    have q1 := hr8.cell 1
    have q2 := hr8.cell 2
    have ql := hr8.lt
    have HL4 := hide hl4
    have hn8 : n' ≤ s.size := by rw [← HL.out]; exact hn8
    clear h8 hg8 hok8 hl4 HX7 HR7
    go_upto_region 10 with fail
    obtain ⟨sz, hsz⟩ : ∃ sz : Nat, a * 256 + c = sz := ⟨_, rfl⟩
    rw [show (a : Int) * 256 + (c : Int) = ((sz : Nat) : Int) from by omega]
    have HSZ := hide hsz
    have hszb : sz ≤ 65535 := by omega
    clear hsz
    by_cases hb4 : b4 = true
    · subst hb4
      have HNO := hide (unrec_gone (p := p) (HPA.out.gone (part_bad2 HK7.out HK8.out rfl)))
      have z0 := HX8.out.zero.cell 0
      have zf0 := HX8.out.zero.frozen 0
      have z1 := HX8.out.zero.cell 1
      have zf1 := HX8.out.zero.frozen 1
      have z2 := HX8.out.zero.cell 2
      have zf2 := HX8.out.zero.frozen 2
      have zlt := HX8.out.zero.lt
      go_wp2
      refine bodyPost_ret (ret_row_tmp rfl _ _ w.heap.size 39 [.int .i64 0, .string .empty, .slice none 0 0] (HX8.out.zero.setAll [.int .i64 0, .string .empty, .slice none 0 0] rfl) _ (.bool false) rfl rfl Try.underlying39 rfl (by kernel_rfl)) rfl ?_
      exact ⟨_, [], by rw [HNO.out.2], by rw [HNO.out.1]; exact (recNone HX8.out.below [.int .i64 0, .string .empty, .slice none 0 0]).1, (recNone HX8.out.below [.int .i64 0, .string .empty, .slice none 0 0]).2⟩
    obtain rfl : b4 = false := by simpa using hb4
    clear hb4
    by_cases hlo : s.size < n' + sz
    · have hlo' : (s.size : Int) - (n' : Int) < (sz : Int) := by omega
      have HNO := hide (unrec_gone (p := p) (HPA.out.gone (part_long HK7.out HK8.out (by rw [HL4.out, List.length_drop, HL.out, HSZ.out]; omega))))
      have z0 := HX8.out.zero.cell 0
      have zf0 := HX8.out.zero.frozen 0
      have z1 := HX8.out.zero.cell 1
      have zf1 := HX8.out.zero.frozen 1
      have z2 := HX8.out.zero.cell 2
      have zf2 := HX8.out.zero.frozen 2
      have zlt := HX8.out.zero.lt
      clear hlo
      go_wp2
      refine bodyPost_ret (ret_row_tmp rfl _ _ w.heap.size 39 [.int .i64 0, .string .empty, .slice none 0 0] (HX8.out.zero.setAll [.int .i64 0, .string .empty, .slice none 0 0] rfl) _ (.bool false) rfl rfl Try.underlying39 rfl (by kernel_rfl)) rfl ?_
      exact ⟨_, [], by rw [HNO.out.2], by rw [HNO.out.1]; exact (recNone HX8.out.below [.int .i64 0, .string .empty, .slice none 0 0]).1, (recNone HX8.out.below [.int .i64 0, .string .empty, .slice none 0 0]).2⟩
    have hlo' : ¬ ((s.size : Int) - (n' : Int) < (sz : Int)) := by omega
    have hnz : n' + sz ≤ s.size := by omega
    clear hlo
    go_upto_region 12 with fail
    obtain ⟨m, hm⟩ : ∃ m, n' + sz = m := ⟨_, rfl⟩
    have hwm : IntKind.i64.wrap ((n' : Int) + (sz : Int)) = ((m : Nat) : Int) := by rw [wrapI _ (by omega) (by omega)]; omega
    have hnm : n' ≤ m := by omega
    have hms : m ≤ s.size := by omega
    have hnI : (0 : Int) ≤ (n' : Int) := by omega
    have hnmI : (n' : Int) ≤ (m : Int) := by omega
    have hmsI : (m : Int) ≤ (s.size : Int) := by omega
    obtain ⟨sub, hsub⟩ : ∃ sub, s.extract n' m = sub := ⟨_, rfl⟩
    have hsl : sub.data.toList = l4.take sz := by rw [← hsub, ← hm, sub_bytes s n' sz hnz, HL4.out]
    have hsz2 : sub.size = sz := by
      have h := congrArg List.length hsl
      rw [Array.length_toList, List.length_take, HL4.out, List.length_drop, HL.out] at h
      exact h.trans (by omega)
    have HSL := hide hsl
    have HM := hide hm
    have hss : sub.size ≤ 65535 := by omega
    have hcv := fun (u : World) => Lib.run_convert_string_bytes (P := Try.prog) u 9 22 5 sub Try.underlying9 Try.underlying22 Try.underlying5
    have hbs := fun (u : World) => Lib.bytesWorld_size u 5 sub
    have hbo := fun (u : World) (a : Addr) (h : a.block < u.heap.size) => Lib.bytesWorld_old u 5 sub a h
    have HS2 := hide hsz2
    have HHM := hide hnz
    clear hsl hm hsz2 hnz
    obtain ⟨ev, hev⟩ : ∃ ev, unpackE (l4.take sz) = ev := ⟨_, rfl⟩
    obtain ⟨ub, hub⟩ : ∃ ub, unpackB (l4.take sz) = ub := ⟨_, rfl⟩
    have HCE := hide (fun (W : World) (A : Option Addr) (c : Nat) (fp : List Nat) (ho : Ow W (.s 1 (l4.take sz).length ((l4.take sz).flatMap byteC)) (.slice A sub.size c) fp) (hf : Lt fp W.heap.size) => show Calls Try.prog 15 #[.slice A sub.size c] W (EvRet ev ub W) from
      (specEventUnpack_any (l4.take sz) A sub.size c fp W ho hf (by rw [List.length_take]; omega)).mono (fun e w' h => by have h2 := EvRet.of h; rw [hev, hub] at h2; exact h2))
    have HEV := hide hev
    have HUB := hide hub
    clear hev hub
    go_cut [10, 11] from 60 to 76 (fun s10 s11 wx => ∃ (bx : Nat) (A1 : Option Addr) (c1 : Nat) (A2 : Option Addr) (c2 : Nat) (fq : List Nat), s10 = .pointer (some ⟨bx, 0, none⟩) ∧ s11 = .bool ub ∧ Row wx bx 28 [.string ev.type_, .int .i64 ev.version, .int .i64 ev.body.sort, .int .i64 ev.body.num, .string ev.body.text, .slice A1 ev.body.names.length c1, .slice A2 ev.body.kids.length c2] ∧ OwC wx ev.cells [.string ev.type_, .int .i64 ev.version, .int .i64 ev.body.sort, .int .i64 ev.body.num, .string ev.body.text, .slice A1 ev.body.names.length c1, .slice A2 ev.body.kids.length c2] fq ∧ New wx fq w8.heap.size ∧ bx ∉ fq ∧ w8.heap.size ≤ bx ∧ Below w8.heap.size w8 wx)
    case first =>
      go_region_with
        (first
          | (go_at_call 15; (with_reducible show Calls _ _ _ (Lib.bytesWorld w8.drew _ sub) _); obtain ⟨fpc, hoc, hfc⟩ := conv_later (W := w8.drew) (W' := Lib.bytesWorld w8.drew 5 sub) HSL.out hss (w8.heap.size) _ (by simp) rfl (Below.refl _ _); refine (HCE.out _ _ _ fpc hoc hfc).mono ?_; rintro e w9 ⟨A1, c1, A2, c2, fq, rfl, ho9, hn9, hb9⟩; have hbz : Below w8.heap.size w8 w9 := (Below.refl w8.heap.size w8).drew.trans ((bw_below w8.drew 5 sub).trans (hb9.mono (by rw [Lib.bytesWorld_size]; exact Nat.le_succ _))); have hkp : w9.cell? ⟨g, 1, none⟩ = some (.int .i64 (n' : Int)) := (hbz.cell (p := ⟨g, 1, none⟩) ql).trans q1; have hArm1 := True.intro; have hk1 : ∀ o : Obj, (w9.alloc o).cell? ⟨g, 1, none⟩ = some (.int .i64 (n' : Int)) := fun o => kcellR q1 (bz_alloc hbz) ql)
          | (go_at_call 15; (with_reducible show Calls _ _ _ (World.alloc (Lib.bytesWorld w8.drew _ sub) _) _); obtain ⟨fpc, hoc, hfc⟩ := conv_later (W := w8.drew) (W' := (Lib.bytesWorld w8.drew 5 sub).alloc (.cells #[.string .empty, .int .i64 0, .int .i64 0, .int .i64 0, .string .empty, .slice none 0 0, .slice none 0 0] 28)) HSL.out hss (w8.heap.size) _ (by simp) rfl ((Below.refl _ _).alloc (by rw [Lib.bytesWorld_size]; exact Nat.le_refl _) _); refine (HCE.out _ _ _ fpc hoc hfc).mono ?_; rintro e w9 ⟨A1, c1, A2, c2, fq, rfl, ho9, hn9, hb9⟩; have hbz : Below w8.heap.size w8 w9 := (Below.refl w8.heap.size w8).drew.trans ((bw_below w8.drew 5 sub).trans (((Below.refl w8.heap.size (Lib.bytesWorld w8.drew 5 sub)).alloc (by rw [Lib.bytesWorld_size]; exact Nat.le_succ _) _).trans (hb9.mono (by rw [World.size_alloc, Lib.bytesWorld_size]; show w8.heap.size ≤ w8.heap.size + 1 + 1; omega)))); have hkp : w9.cell? ⟨g, 1, none⟩ = some (.int .i64 (n' : Int)) := (hbz.cell (p := ⟨g, 1, none⟩) ql).trans q1; have hArm2 := True.intro; have hk2 : ∀ v0 v1 v2 v3 v4 v5 v6 : Value, (((((((w9.setCell ⟨w8.heap.size + 1, 0, none⟩ v0).setCell ⟨w8.heap.size + 1, 1, none⟩ v1).setCell ⟨w8.heap.size + 1, 2, none⟩ v2).setCell ⟨w8.heap.size + 1, 3, none⟩ v3).setCell ⟨w8.heap.size + 1, 4, none⟩ v4).setCell ⟨w8.heap.size + 1, 5, none⟩ v5).setCell ⟨w8.heap.size + 1, 6, none⟩ v6).cell? ⟨g, 1, none⟩ = some (.int .i64 (n' : Int)) := fun v0 v1 v2 v3 v4 v5 v6 => kcellR q1 (bz_set (bz_set (bz_set (bz_set (bz_set (bz_set (bz_set hbz (Nat.le_succ _)) (Nat.le_succ _)) (Nat.le_succ _)) (Nat.le_succ _)) (Nat.le_succ _)) (Nat.le_succ _)) (Nat.le_succ _)) ql; have RZ := (Row.atU (Lib.bytesWorld w8.drew 5 sub) 28 [.string .empty, .int .i64 0, .int .i64 0, .int .i64 0, .string .empty, .slice none 0 0, .slice none 0 0] (w8.heap.size + 1) (Lib.bytesWorld_size _ _ _)).below hb9 (by rw [World.size_alloc, Lib.bytesWorld_size]; show w8.heap.size + 1 < w8.heap.size + 1 + 1; omega); have rzl := RZ.lt; have z0 : w9.cell? ⟨w8.heap.size + 1, 0, none⟩ = _ := RZ.cell 0; have zf0 : w9.frozen? ⟨w8.heap.size + 1, 0, none⟩ = _ := RZ.frozen 0; have z1 : w9.cell? ⟨w8.heap.size + 1, 1, none⟩ = _ := RZ.cell 1; have zf1 : w9.frozen? ⟨w8.heap.size + 1, 1, none⟩ = _ := RZ.frozen 1; have z2 : w9.cell? ⟨w8.heap.size + 1, 2, none⟩ = _ := RZ.cell 2; have zf2 : w9.frozen? ⟨w8.heap.size + 1, 2, none⟩ = _ := RZ.frozen 2; have z3 : w9.cell? ⟨w8.heap.size + 1, 3, none⟩ = _ := RZ.cell 3; have zf3 : w9.frozen? ⟨w8.heap.size + 1, 3, none⟩ = _ := RZ.frozen 3; have z4 : w9.cell? ⟨w8.heap.size + 1, 4, none⟩ = _ := RZ.cell 4; have zf4 : w9.frozen? ⟨w8.heap.size + 1, 4, none⟩ = _ := RZ.frozen 4; have z5 : w9.cell? ⟨w8.heap.size + 1, 5, none⟩ = _ := RZ.cell 5; have zf5 : w9.frozen? ⟨w8.heap.size + 1, 5, none⟩ = _ := RZ.frozen 5; have z6 : w9.cell? ⟨w8.heap.size + 1, 6, none⟩ = _ := RZ.cell 6; have zf6 : w9.frozen? ⟨w8.heap.size + 1, 6, none⟩ = _ := RZ.frozen 6)
          | (go_at_call 15; (with_reducible show Calls _ _ _ (Lib.bytesWorld (World.drew (World.alloc w8 _)) _ sub) _); obtain ⟨fpc, hoc, hfc⟩ := conv_later (W := (w8.alloc (.cells #[.string .empty, .int .i64 0, .int .i64 0, .int .i64 0, .string .empty, .slice none 0 0, .slice none 0 0] 28)).drew) (W' := (Lib.bytesWorld ((w8.alloc (.cells #[.string .empty, .int .i64 0, .int .i64 0, .int .i64 0, .string .empty, .slice none 0 0, .slice none 0 0] 28)).drew) 5 sub)) HSL.out hss (w8.heap.size + 1) _ (size_da _ _).symm rfl (Below.refl _ _); refine (HCE.out _ _ _ fpc hoc hfc).mono ?_; rintro e w9 ⟨A1, c1, A2, c2, fq, rfl, ho9, hn9, hb9⟩; have hbz : Below w8.heap.size w8 w9 := (bz_bw (t := 5) (s := sub) (bz_drew (bz_alloc (o := .cells #[.string .empty, .int .i64 0, .int .i64 0, .int .i64 0, .string .empty, .slice none 0 0, .slice none 0 0] 28) (Below.refl w8.heap.size w8)))).trans (hb9.mono (bz_bw (t := 5) (s := sub) (bz_drew (bz_alloc (o := .cells #[.string .empty, .int .i64 0, .int .i64 0, .int .i64 0, .string .empty, .slice none 0 0, .slice none 0 0] 28) (Below.refl w8.heap.size w8)))).size); have hkp : w9.cell? ⟨g, 1, none⟩ = some (.int .i64 (n' : Int)) := (hbz.cell (p := ⟨g, 1, none⟩) ql).trans q1; have hArm3 := True.intro; have hk2 : ∀ v0 v1 v2 v3 v4 v5 v6 : Value, (((((((w9.setCell ⟨w8.heap.size, 0, none⟩ v0).setCell ⟨w8.heap.size, 1, none⟩ v1).setCell ⟨w8.heap.size, 2, none⟩ v2).setCell ⟨w8.heap.size, 3, none⟩ v3).setCell ⟨w8.heap.size, 4, none⟩ v4).setCell ⟨w8.heap.size, 5, none⟩ v5).setCell ⟨w8.heap.size, 6, none⟩ v6).cell? ⟨g, 1, none⟩ = some (.int .i64 (n' : Int)) := fun v0 v1 v2 v3 v4 v5 v6 => kcellR q1 (bz_set (bz_set (bz_set (bz_set (bz_set (bz_set (bz_set hbz (Nat.le_refl _)) (Nat.le_refl _)) (Nat.le_refl _)) (Nat.le_refl _)) (Nat.le_refl _)) (Nat.le_refl _)) (Nat.le_refl _)) ql; have RZ := (rowZ w8 5 28 sub [.string .empty, .int .i64 0, .int .i64 0, .int .i64 0, .string .empty, .slice none 0 0, .slice none 0 0]).below hb9 (by rw [Lib.bytesWorld_size, size_da]; omega); have rzl := RZ.lt; have z0 : w9.cell? ⟨w8.heap.size, 0, none⟩ = _ := RZ.cell 0; have zf0 : w9.frozen? ⟨w8.heap.size, 0, none⟩ = _ := RZ.frozen 0; have z1 : w9.cell? ⟨w8.heap.size, 1, none⟩ = _ := RZ.cell 1; have zf1 : w9.frozen? ⟨w8.heap.size, 1, none⟩ = _ := RZ.frozen 1; have z2 : w9.cell? ⟨w8.heap.size, 2, none⟩ = _ := RZ.cell 2; have zf2 : w9.frozen? ⟨w8.heap.size, 2, none⟩ = _ := RZ.frozen 2; have z3 : w9.cell? ⟨w8.heap.size, 3, none⟩ = _ := RZ.cell 3; have zf3 : w9.frozen? ⟨w8.heap.size, 3, none⟩ = _ := RZ.frozen 3; have z4 : w9.cell? ⟨w8.heap.size, 4, none⟩ = _ := RZ.cell 4; have zf4 : w9.frozen? ⟨w8.heap.size, 4, none⟩ = _ := RZ.frozen 4; have z5 : w9.cell? ⟨w8.heap.size, 5, none⟩ = _ := RZ.cell 5; have zf5 : w9.frozen? ⟨w8.heap.size, 5, none⟩ = _ := RZ.frozen 5; have z6 : w9.cell? ⟨w8.heap.size, 6, none⟩ = _ := RZ.cell 6; have zf6 : w9.frozen? ⟨w8.heap.size, 6, none⟩ = _ := RZ.frozen 6)
          | (go_at_call 15; trace_state; fail))
      all_goals
        have HO9 := hide ho9
        have HN9 := hide hn9
        have HBZ := hide hbz
        (try have HRZ := hide RZ)
        clear ho9 hn9 hbz hb9
        go_wp2_with fail
        go_meet
        first
          | (have := hArm1; exact ⟨w9.heap.size, A1, c1, A2, c2, fq, rfl, rfl, Row.new w9 _ _, HO9.out.alloc HN9.out.lt _, (HN9.out.alloc _).mono (by rw [Lib.bytesWorld_size]; exact Nat.le_succ _), HN9.out.lt.not_mem (Nat.le_refl _), HBZ.out.size, bz_alloc HBZ.out⟩)
          | (have := hArm2; exact ⟨w8.heap.size + 1, A1, c1, A2, c2, fq, rfl, rfl, HRZ.out.setAll [.string ev.type_, .int .i64 ev.version, .int .i64 ev.body.sort, .int .i64 ev.body.num, .string ev.body.text, .slice A1 ev.body.names.length c1, .slice A2 ev.body.kids.length c2] rfl, evMeet HO9.out (HN9.out.mono (by rw [World.size_alloc, Lib.bytesWorld_size]; exact Nat.le_succ _)) (setN_grown [.string ev.type_, .int .i64 ev.version, .int .i64 ev.body.sort, .int .i64 ev.body.num, .string ev.body.text, .slice A1 ev.body.names.length c1, .slice A2 ev.body.kids.length c2] 0 (grown_refl w9 (some (w8.heap.size + 1)))) (HN9.out.out (by rw [World.size_alloc, Lib.bytesWorld_size]; exact Nat.lt_succ_self _)) (Nat.le_succ _) HBZ.out⟩)
          | (have := hArm3; exact ⟨w8.heap.size, A1, c1, A2, c2, fq, rfl, rfl, HRZ.out.setAll [.string ev.type_, .int .i64 ev.version, .int .i64 ev.body.sort, .int .i64 ev.body.num, .string ev.body.text, .slice A1 ev.body.names.length c1, .slice A2 ev.body.kids.length c2] rfl, evMeet HO9.out (HN9.out.mono (by rw [Lib.bytesWorld_size, size_da]; exact Nat.le_succ _)) (setN_grown [.string ev.type_, .int .i64 ev.version, .int .i64 ev.body.sort, .int .i64 ev.body.num, .string ev.body.text, .slice A1 ev.body.names.length c1, .slice A2 ev.body.kids.length c2] 0 (grown_refl w9 (some w8.heap.size))) (HN9.out.out (by rw [Lib.bytesWorld_size, size_da]; omega)) (Nat.le_refl _) HBZ.out⟩)
    case rest =>
      obtain ⟨bx, A1, c1, A2, c2, fq, rfl, rfl, hxr, hxo, hxn, hbx, hblo, hcb⟩ := hcut
      have HXC := hide (HX8.out.step hcb)
      have HRC := hide (HR8.out.below hcb)
      cases ub
      · have HNO := hide (unrec_gone (p := p) (HPA.out.gone (part_no HK7.out HK8.out (by rw [HSZ.out, HUB.out]))))
        have z0 := HXC.out.zero.cell 0
        have zf0 := HXC.out.zero.frozen 0
        have z1 := HXC.out.zero.cell 1
        have zf1 := HXC.out.zero.frozen 1
        have z2 := HXC.out.zero.cell 2
        have zf2 := HXC.out.zero.frozen 2
        have zlt := HXC.out.zero.lt
        go_wp2
        refine bodyPost_ret (ret_row_tmp rfl _ _ w.heap.size 39 [.int .i64 0, .string .empty, .slice none 0 0] (HXC.out.zero.setAll [.int .i64 0, .string .empty, .slice none 0 0] rfl) _ (.bool false) rfl rfl Try.underlying39 rfl (by kernel_rfl)) rfl ?_
        exact ⟨_, [], by rw [HNO.out.2], by rw [HNO.out.1]; exact (recNone HXC.out.below [.int .i64 0, .string .empty, .slice none 0 0]).1, (recNone HXC.out.below [.int .i64 0, .string .empty, .slice none 0 0]).2⟩
      have HPN := hide (HPA.out.next (part_yes HK7.out HK8.out (by rw [HSZ.out, HL4.out, List.length_drop, HL.out]; have := HHM.out; omega) (by rw [HSZ.out, HUB.out])))
      rw [HSZ.out, HEV.out] at HPN
      have hev2 : ev.bulk ≤ 2000 := by
        rw [← HEV.out]
        exact Nat.le_trans (unpackE_bulk (l4.take sz)) (by rw [List.length_take, HL4.out, List.length_drop, HL.out]; omega)
      have HEB := hide hev2
      have HXA := hide (HXC.out.step ((Below.refl wc.heap.size wc).alloc (Nat.le_refl _) (.cells #[.string ev.type_, .int .i64 ev.version, .int .i64 ev.body.sort, .int .i64 ev.body.num, .string ev.body.text, .slice A1 ev.body.names.length c1, .slice A2 ev.body.kids.length c2] 28)))
      have HNW := hide (recNew HX8.out.evs hcb hxn (by have := HX8.out.box.lt; omega) (.cells #[.string ev.type_, .int .i64 ev.version, .int .i64 ev.body.sort, .int .i64 ev.body.num, .string ev.body.text, .slice A1 ev.body.names.length c1, .slice A2 ev.body.kids.length c2] 28))
      have HEO := hide (show OwC (wc.alloc (.cells #[.string ev.type_, .int .i64 ev.version, .int .i64 ev.body.sort, .int .i64 ev.body.num, .string ev.body.text, .slice A1 ev.body.names.length c1, .slice A2 ev.body.kids.length c2] 28)) ([ev].flatMap Event.cells) [.string ev.type_, .int .i64 ev.version, .int .i64 ev.body.sort, .int .i64 ev.body.num, .string ev.body.text, .slice A1 ev.body.names.length c1, .slice A2 ev.body.kids.length c2] fq from by rw [List.flatMap_singleton]; exact hxo.alloc hxn.lt _)
      have HSA := hide (show w4.heap.size + 1 ≤ (wc.alloc (.cells #[.string ev.type_, .int .i64 ev.version, .int .i64 ev.body.sort, .int .i64 ev.body.num, .string ev.body.text, .slice A1 ev.body.names.length c1, .slice A2 ev.body.kids.length c2] 28)).heap.size from by rw [World.size_alloc]; have := HXC.out.box.lt; omega)
      obtain ⟨ia, hia, ia0, ia1, ia2⟩ := info_parts info_Event'
      have hke2 : es.length ≤ 255 := by have := HKE.out; omega
      have HWK := hide (show wrap64 (k : Int) = (k : Int) from by have := HKE.out; unfold wrap64; omega)
      have b0 := hxr.cell 0
      have b1 := hxr.cell 1
      have b2 := hxr.cell 2
      have b3 := hxr.cell 3
      have b4 := hxr.cell 4
      have b5 := hxr.cell 5
      have b6 := hxr.cell 6
      have bl := hxr.lt
      have x2 := HXC.out.box.cell 2
      have xl := HXC.out.box.lt
      have hrc := (hr8.below hcb hr8.lt).alloc (.cells #[.string ev.type_, .int .i64 ev.version, .int .i64 ev.body.sort, .int .i64 ev.body.num, .string ev.body.text, .slice A1 ev.body.names.length c1, .slice A2 ev.body.kids.length c2] 28)
      have HRR := hide hrc
      have HRA := hide (HRC.out.below ((Below.refl wc.heap.size wc).alloc (Nat.le_refl _) (.cells #[.string ev.type_, .int .i64 ev.version, .int .i64 ev.body.sort, .int .i64 ev.body.num, .string ev.body.text, .slice A1 ev.body.names.length c1, .slice A2 ev.body.kids.length c2] 28)))
      clear hev2 hxo hxn hbx hblo hcb hxr hrc q1 q2 ql hr8
      go_wp2_with (first | (at_builtin; refine wpl_app rfl _ _ 37 rfl ia _ 104 Try.underlying37 hia ia0 ia1 ia2 rfl (by decide) Event.cells_len rfl HXA.out.evs [ev] HEO.out HNW.out.1 HNW.out.2 _ 1 1 rfl rfl (SrcAt.new wc _ _ _ _) (by omega) (by decide) HSA.out ?_; intro A5 n5 c5 w11 hn5 hown5 hgb5; have HG5 := hide hgb5; have HN5 := hide hown5; have r5 := hgb5.row HXA.out.box (HXA.out.evs.low (Nat.lt_succ_self _)); have q5 := r5.cell 2; have f5 := r5.frozen 2; have l5 := r5.lt; have s5 := hgb5.row HRR.out (HXA.out.evs.low (by omega)); have S5 := hide s5; have t5 := s5.cell 1; have tf5 := s5.frozen 1; have tl5 := s5.lt; clear hown5 hgb5 hn5 r5 s5))
      go_roundw
      case rel =>
        refine ⟨k, es ++ [ev], .slice A5 n5 c5, us ++ [.string ev.type_, .int .i64 ev.version, .int .i64 ev.body.sort, .int .i64 ev.body.num, .string ev.body.text, .slice A1 ev.body.names.length c1, .slice A2 ev.body.kids.length c2], fi ++ fq, l4.drop sz, false, by rw [HWK.out], by rw [List.length_append, List.length_singleton]; have := HKE.out; omega, by rw [Event.bulkS_app, List.length_append, List.length_singleton]; have := HBK.out; have := HEB.out; omega, (HXA.out.put HG5.out HN5.out).far (grownBy_setCell _ ⟨g, 1, none⟩ _) hg1 lt4, ?_, HPN.out⟩
        have hbw := (HG5.out.toBelow (B := w4.heap.size) (Nat.le_of_succ_le HSA.out) (fun x e => Nat.le_of_succ_le (HXA.out.evs.from e))).setCell (p := ⟨w4.heap.size, 2, none⟩) (Nat.le_refl _) (.slice A5 n5 c5)
        have h := RdS.skip (HRA.out.low hbw lt4) (S5.out.far (p := ⟨w4.heap.size, 2, none⟩) (by simp; omega) (.slice A5 n5 c5)) sz (by rw [HL.out]; exact HHM.out)
        rw [HM.out] at h
        exact h
      case measure => rw [HWK.out]; simp [intOf]; try omega
end Go.Proofs.Ytbjblchhenmgjaa
namespace Go.Proofs.Ytbjblchhenmgjaa
open Go.ChangeShapes Go.WideShapes Go.ChangeAt Go.RowKit

set_option maxRecDepth 100000 in
set_option maxHeartbeats 4000000 in
theorem implEventUnpack_any (l : List UInt8) (A : Option Addr) (n c : Nat) (fp : List Nat) (w : World) (ho : Ow w (.s 1 l.length (l.flatMap byteC)) (.slice A n c) fp) (hf : Lt fp w.heap.size) (hsz : l.length ≤ 1048576) :
    Calls Try.prog 17 #[.slice A n c] w (UnpOut l w) := by
  obtain ⟨rfl, hnc, hcm⟩ := ho.nlen
  have HO := hide ho
  have HZ0 := hide (Row.new w 28 [.string .empty, .int .i64 0, .int .i64 0, .int .i64 0, .string .empty, .slice none 0 0, .slice none 0 0])
  have HB0 := hide (show Below w.heap.size w (w.alloc (.cells #[.string .empty, .int .i64 0, .int .i64 0, .int .i64 0, .string .empty, .slice none 0 0, .slice none 0 0] 28)) from (Below.refl _ _).alloc (Nat.le_refl _) _)
  clear ho
  go_enter Try.func17, Try.ntmps17
  by_cases hl : 9000 < l.length
  · have hli : (9000 : Int) < (l.length : Int) := by omega
    have HNO := hide (unpack_long hl)
    go_upto_region 1 with fail
    generalize hw1 : w.alloc _ = w1
    have HZ1 := hide (show Row w1 w.heap.size 28 [.string .empty, .int .i64 0, .int .i64 0, .int .i64 0, .string .empty, .slice none 0 0, .slice none 0 0] from by rw [← hw1]; exact HZ0.out)
    have HB1 := hide (show Below w.heap.size w w1 from by rw [← hw1]; exact HB0.out)
    clear hw1
    have z0 := HZ1.out.cell 0
    have z1 := HZ1.out.cell 1
    have z2 := HZ1.out.cell 2
    have z3 := HZ1.out.cell 3
    have z4 := HZ1.out.cell 4
    have z5 := HZ1.out.cell 5
    have z6 := HZ1.out.cell 6
    have zf0 := HZ1.out.frozen 0
    have zf1 := HZ1.out.frozen 1
    have zf2 := HZ1.out.frozen 2
    have zf3 := HZ1.out.frozen 3
    have zf4 := HZ1.out.frozen 4
    have zf5 := HZ1.out.frozen 5
    have zf6 := HZ1.out.frozen 6
    have zlt := HZ1.out.lt
    clear hl
    go_wp2
    refine bodyPost_ret (ret_row_tmp rfl _ _ w.heap.size 28 [.string .empty, .int .i64 0, .int .i64 0, .int .i64 0, .string .empty, .slice none 0 0, .slice none 0 0] (HZ1.out.setAll [.string .empty, .int .i64 0, .int .i64 0, .int .i64 0, .string .empty, .slice none 0 0, .slice none 0 0] rfl) _ (.bool false) rfl rfl Try.underlying28 rfl (by kernel_rfl)) rfl ?_
    exact ⟨_, [], by rw [HNO.out.2], by rw [HNO.out.1]; exact (unp_none HB1.out [.string .empty, .int .i64 0, .int .i64 0, .int .i64 0, .string .empty, .slice none 0 0, .slice none 0 0]).1, (unp_none HB1.out [.string .empty, .int .i64 0, .int .i64 0, .int .i64 0, .string .empty, .slice none 0 0, .slice none 0 0]).2⟩
  have hli : ¬ ((9000 : Int) < (l.length : Int)) := by omega
  have hl9 : l.length ≤ 9000 := by omega
  clear hl
  go_upto_region 4 with fail
  generalize hw3 : (w.alloc _).alloc _ = w3
  have hB13 : Below (w.heap.size + 1) (w.alloc (.cells #[.string .empty, .int .i64 0, .int .i64 0, .int .i64 0, .string .empty, .slice none 0 0, .slice none 0 0] 28)) w3 := by rw [← hw3]; exact (Below.refl _ _).alloc (by simp) _
  have HZ3 := hide (HZ0.out.below hB13 (Nat.lt_succ_self _))
  have HB3 := hide (HB0.out.trans (hB13.mono (Nat.le_succ _)))
  have HR3 : Hid (RdI w3 (w.heap.size + 1) l l false) := hide ⟨A, c, fp, by rw [← hw3]; exact Row.atU _ _ _ _ (by simp), HO.out.below HB3.out hf, hf.mono (Nat.le_succ _), hl9⟩
  have lt3 := HR3.out.lt
  clear hB13 hw3
  go_wp2_with fail
  refine (textI_any HR3.out).mono ?_
  rintro e w4 ⟨s, l1, bd1, rfl, hs, h4, hg4, hok1⟩
  have lt4 := Nat.lt_of_lt_of_le lt3 hg4.size
  have HZ4 := hide (HZ3.out.grown hg4 (fun e => by injection e with e; omega))
  have HB4 := hide (HB3.out.trans (below_of_grown hg4 (Nat.le_succ _) HB3.out.size))
  have HK1 := hide hok1
  have HR4 := hide h4
  clear h4 hg4 hok1 HR3 HZ3
  go_wp2_with fail
  refine (numI_any HR4.out).mono ?_
  rintro e w6 ⟨v, l2, bd2, rfl, hv0, hv1, h6, hg6, hok2⟩
  have lt6 := Nat.lt_of_lt_of_le lt4 hg6.size
  have HZ6 := hide (HZ4.out.grown hg6 (fun e => by injection e with e; omega))
  have HB6 := hide (HB4.out.trans (below_of_grown hg6 (Nat.le_succ _) HB4.out.size))
  have HK2 := hide hok2
  have HTR := hide (show Calls Try.prog 82 #[.pointer (some ⟨w.heap.size + 1, 0, none⟩), .int .i64 1] w6 (TreeOut RdI (w.heap.size + 1) l bd2 (pTree true 6 l2) w6) from treeRdI_any 6 l l2 bd2 (w.heap.size + 1) 1 _ rfl (Nat.le_refl _) h6)
  clear h6 hg6 hok2 HR4 HZ4
  go_wp2_with fail
  refine HTR.out.mono ?_
  rintro e w8 ⟨t, us, fq, l3, bd3, rfl, ho8, hn8, h8, hg8, hok3⟩
  have lt8 := Nat.lt_of_lt_of_le lt6 hg8.size
  have HZ8 := hide (HZ6.out.grown hg8 (fun e => by injection e with e; omega))
  have HB8 := hide (HB6.out.trans (below_of_grown hg8 (Nat.le_succ _) HB6.out.size))
  have HKE := hide (okr_event HK1.out HK2.out hok3)
  have HO8 := hide ho8
  obtain ⟨E1, e1, E2, e2, f1, f2, rfl, -, -, -, -, -, -⟩ := HO8.out.oTree
  have hX := UnpAt.made (s := s) (v := v) HO8.out (hn8.mono (by omega)) (by unfold maxLen; omega) (wfi (by omega) (by omega)) HZ8.out HB8.out
  have HX := hide hX
  have HR8 := hide h8
  clear hX ho8 HO8 hn8 h8 hg8 hok3 HK1 HK2 HZ6 HTR
  go_upto_region 5 with fail
  generalize hwq : World.alloc w8 _ = wq
  have HXQ := hide (show UnpAt w wq w8.heap.size ⟨s, v, t⟩ [.string s, .int .i64 v, .int .i64 t.sort, .int .i64 t.num, .string t.text, .slice E1 t.names.length e1, .slice E2 t.kids.length e2] fq from by rw [← hwq]; exact HX.out)
  have hbq : Below w8.heap.size w8 wq := by rw [← hwq]; exact (Below.refl _ _).alloc (Nat.le_refl _) _
  obtain ⟨A', c', fp', hr', -, -, -⟩ := HR8.out.low hbq lt8
  have r0 := hr'.cell 0
  have r1 := hr'.cell 1
  have lr := hr'.lt
  clear hr' hbq hwq HX HR8 HZ8 HB8
  by_cases hb3 : bd3 = true
  · subst hb3
    have HNO := hide (unpack_gone HKE.out (.inl rfl))
    have z0 := HXQ.out.zero.cell 0
    have z1 := HXQ.out.zero.cell 1
    have z2 := HXQ.out.zero.cell 2
    have z3 := HXQ.out.zero.cell 3
    have z4 := HXQ.out.zero.cell 4
    have z5 := HXQ.out.zero.cell 5
    have z6 := HXQ.out.zero.cell 6
    have zf0 := HXQ.out.zero.frozen 0
    have zf1 := HXQ.out.zero.frozen 1
    have zf2 := HXQ.out.zero.frozen 2
    have zf3 := HXQ.out.zero.frozen 3
    have zf4 := HXQ.out.zero.frozen 4
    have zf5 := HXQ.out.zero.frozen 5
    have zf6 := HXQ.out.zero.frozen 6
    have zlt := HXQ.out.zero.lt
    go_wp2
    refine bodyPost_ret (ret_row_tmp rfl _ _ w.heap.size 28 [.string .empty, .int .i64 0, .int .i64 0, .int .i64 0, .string .empty, .slice none 0 0, .slice none 0 0] (HXQ.out.zero.setAll [.string .empty, .int .i64 0, .int .i64 0, .int .i64 0, .string .empty, .slice none 0 0, .slice none 0 0] rfl) _ (.bool false) rfl rfl Try.underlying28 rfl (by kernel_rfl)) rfl ?_
    exact ⟨_, [], by rw [HNO.out.2], by rw [HNO.out.1]; exact (unp_none HXQ.out.below [.string .empty, .int .i64 0, .int .i64 0, .int .i64 0, .string .empty, .slice none 0 0, .slice none 0 0]).1, (unp_none HXQ.out.below [.string .empty, .int .i64 0, .int .i64 0, .int .i64 0, .string .empty, .slice none 0 0, .slice none 0 0]).2⟩
  obtain rfl : bd3 = false := by simpa using hb3
  obtain ⟨m, hm⟩ : ∃ m, l3.length = m := ⟨_, rfl⟩
  rw [hm] at r0
  by_cases hn9 : m = 0
  rotate_left
  · have hnI : 0 < m := by omega
    have HNO := hide (unpack_gone HKE.out (.inr (fun e => hn9 (by rw [← hm, e]; rfl))))
    clear hm
    have z0 := HXQ.out.zero.cell 0
    have z1 := HXQ.out.zero.cell 1
    have z2 := HXQ.out.zero.cell 2
    have z3 := HXQ.out.zero.cell 3
    have z4 := HXQ.out.zero.cell 4
    have z5 := HXQ.out.zero.cell 5
    have z6 := HXQ.out.zero.cell 6
    have zf0 := HXQ.out.zero.frozen 0
    have zf1 := HXQ.out.zero.frozen 1
    have zf2 := HXQ.out.zero.frozen 2
    have zf3 := HXQ.out.zero.frozen 3
    have zf4 := HXQ.out.zero.frozen 4
    have zf5 := HXQ.out.zero.frozen 5
    have zf6 := HXQ.out.zero.frozen 6
    have zlt := HXQ.out.zero.lt
    clear hn9
    go_wp2
    refine bodyPost_ret (ret_row_tmp rfl _ _ w.heap.size 28 [.string .empty, .int .i64 0, .int .i64 0, .int .i64 0, .string .empty, .slice none 0 0, .slice none 0 0] (HXQ.out.zero.setAll [.string .empty, .int .i64 0, .int .i64 0, .int .i64 0, .string .empty, .slice none 0 0, .slice none 0 0] rfl) _ (.bool false) rfl rfl Try.underlying28 rfl (by kernel_rfl)) rfl ?_
    exact ⟨_, [], by rw [HNO.out.2], by rw [HNO.out.1]; exact (unp_none HXQ.out.below [.string .empty, .int .i64 0, .int .i64 0, .int .i64 0, .string .empty, .slice none 0 0, .slice none 0 0]).1, (unp_none HXQ.out.below [.string .empty, .int .i64 0, .int .i64 0, .int .i64 0, .string .empty, .slice none 0 0, .slice none 0 0]).2⟩
  subst hn9
  obtain rfl : l3 = [] := List.eq_nil_of_length_eq_zero hm
  have hl0 := event_ne HKE.out rfl
  have hl0I : ((l.length : Int) == 0) = false := beq_eq_false_iff_ne.2 (by omega)
  have HBK := hide (okr_bulk HKE.out)
  have HP := hide (implEventPack_any ⟨s, v, t⟩ _ _ wq HXQ.out.ow HXQ.out.new.lt (by have := HBK.out; omega))
  have b0 := HXQ.out.box.cell 0
  have b1 := HXQ.out.box.cell 1
  have b2 := HXQ.out.box.cell 2
  have b3 := HXQ.out.box.cell 3
  have b4 := HXQ.out.box.cell 4
  have b5 := HXQ.out.box.cell 5
  have b6 := HXQ.out.box.cell 6
  have blt := HXQ.out.box.lt
  have HL0 := hide hl0
  clear hm hb3 hl0
  go_wp2_with fail
  refine HP.out.mono ?_
  rintro e w10 ⟨v', rfl, hv', hb10⟩
  obtain ⟨fpv, hov, hnv⟩ := hv'.toOw
  obtain ⟨A2, c2, rfl, _, _⟩ := hov.slice
  have HX10 := hide (HXQ.out.step hb10)
  have HS := hide (eqBytes_any (Event.packed ⟨s, v, t⟩) l A2 A c2 c w10 (hov.bytesAt hnv.lt) ((HO.out.below HX10.out.below hf).bytesAt (hf.up HX10.out.below)) (by have := Event.packed_len ⟨s, v, t⟩; omega) (by omega))
  clear hb10 hv' hov hnv HP b0 b1 b2 b3 b4 b5 b6 blt
  go_wp2_with fail
  refine HS.out.mono ?_
  rintro e w11 ⟨rfl, hb11⟩
  have HX11 := hide (HX10.out.step hb11)
  clear hb11
  by_cases hsm : Event.packed ⟨s, v, t⟩ = l
  · rw [tb_true hsm]
    have HY := hide (unpack_back (x := ⟨s, v, t⟩) hl9 (packed_ok hsm HL0.out) ((Event.packed_yes (packed_ok hsm HL0.out)).symm.trans hsm))
    clear hsm
    have z0 := HX11.out.zero.cell 0
    have z1 := HX11.out.zero.cell 1
    have z2 := HX11.out.zero.cell 2
    have z3 := HX11.out.zero.cell 3
    have z4 := HX11.out.zero.cell 4
    have z5 := HX11.out.zero.cell 5
    have z6 := HX11.out.zero.cell 6
    have zf0 := HX11.out.zero.frozen 0
    have zf1 := HX11.out.zero.frozen 1
    have zf2 := HX11.out.zero.frozen 2
    have zf3 := HX11.out.zero.frozen 3
    have zf4 := HX11.out.zero.frozen 4
    have zf5 := HX11.out.zero.frozen 5
    have zf6 := HX11.out.zero.frozen 6
    have zlt := HX11.out.zero.lt
    have b0 := HX11.out.box.cell 0
    have b1 := HX11.out.box.cell 1
    have b2 := HX11.out.box.cell 2
    have b3 := HX11.out.box.cell 3
    have b4 := HX11.out.box.cell 4
    have b5 := HX11.out.box.cell 5
    have b6 := HX11.out.box.cell 6
    have blt := HX11.out.box.lt
    go_wp2
    refine bodyPost_ret (ret_row_tmp rfl _ _ w.heap.size 28 [.string s, .int .i64 v, .int .i64 t.sort, .int .i64 t.num, .string t.text, .slice E1 t.names.length e1, .slice E2 t.kids.length e2] (HX11.out.zero.setAll [.string s, .int .i64 v, .int .i64 t.sort, .int .i64 t.num, .string t.text, .slice E1 t.names.length e1, .slice E2 t.kids.length e2] rfl) _ (.bool true) rfl rfl Try.underlying28 rfl (by kernel_rfl)) rfl ?_
    exact ⟨_, fq, by rw [HY.out.2], by rw [HY.out.1]; exact (HX11.out.fin [.string s, .int .i64 v, .int .i64 t.sort, .int .i64 t.num, .string t.text, .slice E1 t.names.length e1, .slice E2 t.kids.length e2]).1, (HX11.out.fin [.string s, .int .i64 v, .int .i64 t.sort, .int .i64 t.num, .string t.text, .slice E1 t.names.length e1, .slice E2 t.kids.length e2]).2⟩
  · rw [tb_false hsm]
    have HNO := hide (unpack_left HKE.out (fun h => hsm ((Event.packed_yes h.1).trans h.2)))
    clear hsm
    have z0 := HX11.out.zero.cell 0
    have z1 := HX11.out.zero.cell 1
    have z2 := HX11.out.zero.cell 2
    have z3 := HX11.out.zero.cell 3
    have z4 := HX11.out.zero.cell 4
    have z5 := HX11.out.zero.cell 5
    have z6 := HX11.out.zero.cell 6
    have zf0 := HX11.out.zero.frozen 0
    have zf1 := HX11.out.zero.frozen 1
    have zf2 := HX11.out.zero.frozen 2
    have zf3 := HX11.out.zero.frozen 3
    have zf4 := HX11.out.zero.frozen 4
    have zf5 := HX11.out.zero.frozen 5
    have zf6 := HX11.out.zero.frozen 6
    have zlt := HX11.out.zero.lt
    go_wp2
    refine bodyPost_ret (ret_row_tmp rfl _ _ w.heap.size 28 [.string .empty, .int .i64 0, .int .i64 0, .int .i64 0, .string .empty, .slice none 0 0, .slice none 0 0] (HX11.out.zero.setAll [.string .empty, .int .i64 0, .int .i64 0, .int .i64 0, .string .empty, .slice none 0 0, .slice none 0 0] rfl) _ (.bool false) rfl rfl Try.underlying28 rfl (by kernel_rfl)) rfl ?_
    exact ⟨_, [], by rw [HNO.out.2], by rw [HNO.out.1]; exact (unp_none HX11.out.below [.string .empty, .int .i64 0, .int .i64 0, .int .i64 0, .string .empty, .slice none 0 0, .slice none 0 0]).1, (unp_none HX11.out.below [.string .empty, .int .i64 0, .int .i64 0, .int .i64 0, .string .empty, .slice none 0 0, .slice none 0 0]).2⟩
end Go.Proofs.Ytbjblchhenmgjaa
