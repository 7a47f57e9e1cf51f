/-
  EventUnpack of the reference.
-/
import Derived.Test.YtnaecdoeldoipaaGreatDoorQUnpI
set_option linter.unusedVariables false
set_option linter.unusedSimpArgs false
namespace Go.Proofs.YtnaecdoeldoipaaGreatDoor
open Go.ChangeShapes Go.WideShapes Go.ChangeAt Go.RowKit

set_option maxRecDepth 100000 in
set_option maxHeartbeats 4000000 in
theorem specEventUnpack_any (l : List UInt8) (A : Option Addr) (n c : Nat) (fp : List Nat) (w : World) (ho : Ow w (.s 1 l.length (l.flatMap byteC)) (.slice A n c) fp) (hf : Lt fp w.heap.size) (hsz : l.length ≤ 1048576) :
    Calls Tryz.prog 39 #[.slice A n c] w (UnpOut l w) := by
  obtain ⟨rfl, hnc, hcm⟩ := ho.nlen
  have HO := hide ho
  have HZ0 := hide (Row.new w 46 [.string .empty, .int .i64 0, .int .i64 0, .int .i64 0, .string .empty, .slice none 0 0, .slice none 0 0])
  have HB0 := hide (show Below w.heap.size w (w.alloc (.cells #[.string .empty, .int .i64 0, .int .i64 0, .int .i64 0, .string .empty, .slice none 0 0, .slice none 0 0] 46)) from (Below.refl _ _).alloc (Nat.le_refl _) _)
  clear ho
  go_enter Tryz.func39, Tryz.ntmps39
  by_cases hl : 9000 < l.length
  · have hli : (9000 : Int) < (l.length : Int) := by omega
    have HNO := hide (unpack_long hl)
    go_upto_region 1 with fail
    generalize hw1 : w.alloc _ = w1
    have HZ1 := hide (show Row w1 w.heap.size 46 [.string .empty, .int .i64 0, .int .i64 0, .int .i64 0, .string .empty, .slice none 0 0, .slice none 0 0] from by rw [← hw1]; exact HZ0.out)
    have HB1 := hide (show Below w.heap.size w w1 from by rw [← hw1]; exact HB0.out)
    clear hw1
    have z0 := HZ1.out.cell 0
    have z1 := HZ1.out.cell 1
    have z2 := HZ1.out.cell 2
    have z3 := HZ1.out.cell 3
    have z4 := HZ1.out.cell 4
    have z5 := HZ1.out.cell 5
    have z6 := HZ1.out.cell 6
    have zf0 := HZ1.out.frozen 0
    have zf1 := HZ1.out.frozen 1
    have zf2 := HZ1.out.frozen 2
    have zf3 := HZ1.out.frozen 3
    have zf4 := HZ1.out.frozen 4
    have zf5 := HZ1.out.frozen 5
    have zf6 := HZ1.out.frozen 6
    have zlt := HZ1.out.lt
    clear hl
    go_wp2
    refine bodyPost_ret (ret_row_tmp rfl _ _ w.heap.size 46 [.string .empty, .int .i64 0, .int .i64 0, .int .i64 0, .string .empty, .slice none 0 0, .slice none 0 0] (HZ1.out.setAll [.string .empty, .int .i64 0, .int .i64 0, .int .i64 0, .string .empty, .slice none 0 0, .slice none 0 0] rfl) _ (.bool false) rfl rfl Tryz.underlying46 rfl (by kernel_rfl)) rfl ?_
    exact ⟨_, [], by rw [HNO.out.2], by rw [HNO.out.1]; exact (unp_none HB1.out [.string .empty, .int .i64 0, .int .i64 0, .int .i64 0, .string .empty, .slice none 0 0, .slice none 0 0]).1, (unp_none HB1.out [.string .empty, .int .i64 0, .int .i64 0, .int .i64 0, .string .empty, .slice none 0 0, .slice none 0 0]).2⟩

  have hli : ¬ ((9000 : Int) < (l.length : Int)) := by omega
  have hl9 : l.length ≤ 9000 := by omega
  clear hl
  go_upto_region 4 with fail
  generalize hw3 : (w.alloc _).alloc _ = w3
  have hB13 : Below (w.heap.size + 1) (w.alloc (.cells #[.string .empty, .int .i64 0, .int .i64 0, .int .i64 0, .string .empty, .slice none 0 0, .slice none 0 0] 46)) w3 := by rw [← hw3]; exact (Below.refl _ _).alloc (by simp) _
  have HZ3 := hide (HZ0.out.below hB13 (Nat.lt_succ_self _))
  have HB3 := hide (HB0.out.trans (hB13.mono (Nat.le_succ _)))
  have HR3 : Hid (RdS w3 (w.heap.size + 1) l l false) := hide ⟨A, c, 0, fp, by rw [← hw3]; exact Row.atU _ _ _ _ (by simp), HO.out.below HB3.out hf, hf.mono (Nat.le_succ _), Nat.zero_le _, hl9, rfl⟩
  have lt3 := HR3.out.lt
  clear hB13 hw3
  go_wp2_with fail
  refine (shortS_any HR3.out).mono ?_
  rintro e w4 ⟨s, l1, bd1, rfl, hs, h4, hg4, hok1⟩
  have lt4 := Nat.lt_of_lt_of_le lt3 hg4.size
  have HZ4 := hide (HZ3.out.grown hg4 (fun e => by injection e with e; omega))
  have HB4 := hide (HB3.out.trans (below_of_grown hg4 (Nat.le_succ _) HB3.out.size))
  have HK1 := hide hok1
  go_upto_region 5 with fail
  generalize hw5 : w4.alloc _ = w5
  have hB5 : Below w4.heap.size w4 w5 := by rw [← hw5]; exact (Below.refl _ _).alloc (Nat.le_refl _) _
  have HX5 : Hid (Row w5 w4.heap.size 46 [.string s, .int .i64 0, .int .i64 0, .int .i64 0, .string .empty, .slice none 0 0, .slice none 0 0]) := hide (by rw [← hw5]; exact Row.new w4 _ _)
  have HZ5 := hide (HZ4.out.below hB5 HZ4.out.lt)
  have HB5 := hide (HB4.out.trans (hB5.mono (Nat.le_of_lt HZ4.out.lt)))
  have HR5 := hide (h4.below hB5)
  have lt5 := HX5.out.lt
  clear hB5 hw5 h4 hg4 hok1 HR3 HZ3 HZ4
  go_wp2_with fail
  refine (oneS_any HR5.out).mono ?_
  rintro e w6 ⟨v, l2, bd2, rfl, hv0, hv1, h6, hg6, hok2⟩
  have lt6 := Nat.lt_of_lt_of_le lt5 hg6.size
  have HZ6 := hide (HZ5.out.grown hg6 (fun e => by injection e with e; omega))
  have HX6 := hide (HX5.out.grown hg6 (fun e => by injection e with e; omega))
  have HB6 := hide (HB5.out.trans (below_of_grown hg6 (Nat.le_succ _) HB5.out.size))
  have HK2 := hide hok2
  have q1 := HX6.out.cell 1
  have f1 := HX6.out.frozen 1
  have hb7 : Below w4.heap.size w6 (w6.setCell ⟨w4.heap.size, 1, none⟩ (.int .i64 v)) := (Below.refl _ _).setCell (p := ⟨w4.heap.size, 1, none⟩) (Nat.le_refl _) _
  have HX7 := hide (HX6.out.set 1 (.int .i64 v))
  have HZ7 := hide (HZ6.out.below hb7 (by omega))
  have HB7 := hide (HB6.out.trans (hb7.mono (by omega)))
  have HR7 := hide (h6.low hb7 lt4)
  have HTR := hide (show Calls Tryz.prog 90 #[.pointer (some ⟨w.heap.size + 1, 0, none⟩), .int .i64 1] (w6.setCell ⟨w4.heap.size, 1, none⟩ (.int .i64 v)) (TreeOut RdS (w.heap.size + 1) l bd2 (pTree false 6 l2) (w6.setCell ⟨w4.heap.size, 1, none⟩ (.int .i64 v))) from treeRdBS_any 6 l l2 bd2 (w.heap.size + 1) 1 _ rfl (Nat.le_refl _) HR7.out)
  clear h6 hg6 hok2 hb7 HR5 HZ5 HX5
  go_wp2_with fail
  refine HTR.out.mono ?_
  rintro e w8 ⟨t, us, fq, l3, bd3, rfl, ho8, hn8, h8, hg8, hok3⟩
  have hs8 : w6.heap.size ≤ w8.heap.size := by have := hg8.size; simpa using this
  have HZ8 := hide (HZ7.out.grown hg8 (fun e => by injection e with e; omega))
  have HX8 := hide (HX7.out.grown hg8 (fun e => by injection e with e; omega))
  have HB8 := hide (HB7.out.trans (below_of_grown hg8 (Nat.le_succ _) HB7.out.size))
  have HKE := hide (okr_event HK1.out HK2.out hok3)
  have HO8 := hide ho8
  obtain ⟨E1, e1, E2, e2, f1, f2, rfl, -, -, -, -, -, -⟩ := HO8.out.oTree
  have hX := UnpAt.make (s := s) (v := v) HO8.out (hn8.mono (by rw [show (w6.setCell ⟨w4.heap.size, 1, none⟩ (.int .i64 v)).heap.size = w6.heap.size by simp [World.setCell]]; omega)) (by omega) (by unfold maxLen; omega) (wfi (by omega) (by omega)) HZ8.out HX8.out HB8.out
  have HX := hide hX
  have g2 := HX8.out.cell 2
  have g3 := HX8.out.cell 3
  have g4 := HX8.out.cell 4
  have g5 := HX8.out.cell 5
  have g6 := HX8.out.cell 6
  have gf2 := HX8.out.frozen 2
  have gf3 := HX8.out.frozen 3
  have gf4 := HX8.out.frozen 4
  have gf5 := HX8.out.frozen 5
  have gf6 := HX8.out.frozen 6
  have HR8 := hide h8
  clear hX ho8 HO8 hn8 h8 hg8 hok3 HK1 HK2 HR7 HZ7 HX7 HZ6 HX6 q1 f1 HTR
  go_upto_region 7 with fail
  generalize hwq : ((((World.setCell w8 ⟨w4.heap.size, 2, none⟩ (.int .i64 t.sort)).setCell ⟨w4.heap.size, 3, none⟩ (.int .i64 t.num)).setCell ⟨w4.heap.size, 4, none⟩ (.string t.text)).setCell ⟨w4.heap.size, 5, none⟩ (.slice E1 t.names.length e1)).setCell ⟨w4.heap.size, 6, none⟩ (.slice E2 t.kids.length e2) = wq
  have HXQ := hide (show UnpAt w wq w4.heap.size ⟨s, v, t⟩ [.string s, .int .i64 v, .int .i64 t.sort, .int .i64 t.num, .string t.text, .slice E1 t.names.length e1, .slice E2 t.kids.length e2] fq from by rw [← hwq]; exact HX.out)
  have hbq : Below w4.heap.size w8 wq := by rw [← hwq]; exact below_of_grown (setN_grown [.int .i64 t.sort, .int .i64 t.num, .string t.text, .slice E1 t.names.length e1, .slice E2 t.kids.length e2] 2 (grown_refl w8 (some w4.heap.size))) (Nat.le_refl _) (Nat.le_of_lt HX8.out.lt)
  obtain ⟨A', c', n', fp', hr', -, -, hn', -, hl3⟩ := HR8.out.low hbq lt4
  have r1 := hr'.cell 1
  have r2 := hr'.cell 2
  have lr := hr'.lt
  clear hr' hbq hwq HX g2 g3 g4 g5 g6 gf2 gf3 gf4 gf5 gf6 HR8 HX8 HZ8 HB8
  by_cases hb3 : bd3 = true
  · subst hb3
    have HNO := hide (unpack_gone HKE.out (.inl rfl))
    have z0 := HXQ.out.zero.cell 0
    have z1 := HXQ.out.zero.cell 1
    have z2 := HXQ.out.zero.cell 2
    have z3 := HXQ.out.zero.cell 3
    have z4 := HXQ.out.zero.cell 4
    have z5 := HXQ.out.zero.cell 5
    have z6 := HXQ.out.zero.cell 6
    have zf0 := HXQ.out.zero.frozen 0
    have zf1 := HXQ.out.zero.frozen 1
    have zf2 := HXQ.out.zero.frozen 2
    have zf3 := HXQ.out.zero.frozen 3
    have zf4 := HXQ.out.zero.frozen 4
    have zf5 := HXQ.out.zero.frozen 5
    have zf6 := HXQ.out.zero.frozen 6
    have zlt := HXQ.out.zero.lt
    clear hl3
    go_wp2
    refine bodyPost_ret (ret_row_tmp rfl _ _ w.heap.size 46 [.string .empty, .int .i64 0, .int .i64 0, .int .i64 0, .string .empty, .slice none 0 0, .slice none 0 0] (HXQ.out.zero.setAll [.string .empty, .int .i64 0, .int .i64 0, .int .i64 0, .string .empty, .slice none 0 0, .slice none 0 0] rfl) _ (.bool false) rfl rfl Tryz.underlying46 rfl (by kernel_rfl)) rfl ?_
    exact ⟨_, [], by rw [HNO.out.2], by rw [HNO.out.1]; exact (unp_none HXQ.out.below [.string .empty, .int .i64 0, .int .i64 0, .int .i64 0, .string .empty, .slice none 0 0, .slice none 0 0]).1, (unp_none HXQ.out.below [.string .empty, .int .i64 0, .int .i64 0, .int .i64 0, .string .empty, .slice none 0 0, .slice none 0 0]).2⟩
  obtain rfl : bd3 = false := by simpa using hb3
  by_cases hn9 : n' = l.length
  rotate_left
  · have hnI : ¬ ((n' : Int) = (l.length : Int)) := by omega
    have HNO := hide (unpack_gone HKE.out (.inr (fun e => by rw [e] at hl3; have h := congrArg List.length hl3; simp only [List.length_nil, List.length_drop] at h; omega)))
    have z0 := HXQ.out.zero.cell 0
    have z1 := HXQ.out.zero.cell 1
    have z2 := HXQ.out.zero.cell 2
    have z3 := HXQ.out.zero.cell 3
    have z4 := HXQ.out.zero.cell 4
    have z5 := HXQ.out.zero.cell 5
    have z6 := HXQ.out.zero.cell 6
    have zf0 := HXQ.out.zero.frozen 0
    have zf1 := HXQ.out.zero.frozen 1
    have zf2 := HXQ.out.zero.frozen 2
    have zf3 := HXQ.out.zero.frozen 3
    have zf4 := HXQ.out.zero.frozen 4
    have zf5 := HXQ.out.zero.frozen 5
    have zf6 := HXQ.out.zero.frozen 6
    have zlt := HXQ.out.zero.lt
    clear hl3 hn9
    go_wp2
    refine bodyPost_ret (ret_row_tmp rfl _ _ w.heap.size 46 [.string .empty, .int .i64 0, .int .i64 0, .int .i64 0, .string .empty, .slice none 0 0, .slice none 0 0] (HXQ.out.zero.setAll [.string .empty, .int .i64 0, .int .i64 0, .int .i64 0, .string .empty, .slice none 0 0, .slice none 0 0] rfl) _ (.bool false) rfl rfl Tryz.underlying46 rfl (by kernel_rfl)) rfl ?_
    exact ⟨_, [], by rw [HNO.out.2], by rw [HNO.out.1]; exact (unp_none HXQ.out.below [.string .empty, .int .i64 0, .int .i64 0, .int .i64 0, .string .empty, .slice none 0 0, .slice none 0 0]).1, (unp_none HXQ.out.below [.string .empty, .int .i64 0, .int .i64 0, .int .i64 0, .string .empty, .slice none 0 0, .slice none 0 0]).2⟩
  have hnI : (n' : Int) = (l.length : Int) := by omega
  obtain rfl : l3 = [] := by rw [hl3, hn9]; exact List.drop_length
  have HBK := hide (okr_bulk HKE.out)
  have HE := hide (specEventOk_any ⟨s, v, t⟩ _ _ wq HXQ.out.ow HXQ.out.new.lt (by have := HBK.out; omega))
  have b0 := HXQ.out.box.cell 0
  have b1 := HXQ.out.box.cell 1
  have b2 := HXQ.out.box.cell 2
  have b3 := HXQ.out.box.cell 3
  have b4 := HXQ.out.box.cell 4
  have b5 := HXQ.out.box.cell 5
  have b6 := HXQ.out.box.cell 6
  have blt := HXQ.out.box.lt
  clear hl3 hn9 hb3
  go_wp2_with fail
  refine HE.out.mono ?_
  rintro e w9 ⟨rfl, hb9⟩
  have HX9 := hide (HXQ.out.step hb9)
  clear hb9 HE b0 b1 b2 b3 b4 b5 b6 blt
  by_cases hok : (⟨s, v, t⟩ : Event).ok
  rotate_left
  · rw [tb_false hok]
    have HNO := hide (unpack_left HKE.out (fun h => hok h.1))
    have z0 := HX9.out.zero.cell 0
    have z1 := HX9.out.zero.cell 1
    have z2 := HX9.out.zero.cell 2
    have z3 := HX9.out.zero.cell 3
    have z4 := HX9.out.zero.cell 4
    have z5 := HX9.out.zero.cell 5
    have z6 := HX9.out.zero.cell 6
    have zf0 := HX9.out.zero.frozen 0
    have zf1 := HX9.out.zero.frozen 1
    have zf2 := HX9.out.zero.frozen 2
    have zf3 := HX9.out.zero.frozen 3
    have zf4 := HX9.out.zero.frozen 4
    have zf5 := HX9.out.zero.frozen 5
    have zf6 := HX9.out.zero.frozen 6
    have zlt := HX9.out.zero.lt
    clear hok
    go_wp2
    refine bodyPost_ret (ret_row_tmp rfl _ _ w.heap.size 46 [.string .empty, .int .i64 0, .int .i64 0, .int .i64 0, .string .empty, .slice none 0 0, .slice none 0 0] (HX9.out.zero.setAll [.string .empty, .int .i64 0, .int .i64 0, .int .i64 0, .string .empty, .slice none 0 0, .slice none 0 0] rfl) _ (.bool false) rfl rfl Tryz.underlying46 rfl (by kernel_rfl)) rfl ?_
    exact ⟨_, [], by rw [HNO.out.2], by rw [HNO.out.1]; exact (unp_none HX9.out.below [.string .empty, .int .i64 0, .int .i64 0, .int .i64 0, .string .empty, .slice none 0 0, .slice none 0 0]).1, (unp_none HX9.out.below [.string .empty, .int .i64 0, .int .i64 0, .int .i64 0, .string .empty, .slice none 0 0, .slice none 0 0]).2⟩
  rw [tb_true hok]
  have HP := hide (specEventPack_any ⟨s, v, t⟩ _ _ w9 HX9.out.ow HX9.out.new.lt (by have := HBK.out; omega))
  have HK := hide hok
  clear hok
  have b0 := HX9.out.box.cell 0
  have b1 := HX9.out.box.cell 1
  have b2 := HX9.out.box.cell 2
  have b3 := HX9.out.box.cell 3
  have b4 := HX9.out.box.cell 4
  have b5 := HX9.out.box.cell 5
  have b6 := HX9.out.box.cell 6
  have blt := HX9.out.box.lt
  go_wp2_with fail
  refine HP.out.mono ?_
  rintro e w10 ⟨v', rfl, hv', hb10⟩
  obtain ⟨fpv, hov, hnv⟩ := hv'.toOw
  obtain ⟨A2, c2, rfl, _, _⟩ := hov.slice
  have HX10 := hide (HX9.out.step hb10)
  have HS := hide (l4Same_any (Event.packed ⟨s, v, t⟩) l A2 A c2 c w10 (hov.bytesAt hnv.lt) ((HO.out.below HX10.out.below hf).bytesAt (hf.up HX10.out.below)))
  have HPK := hide (Event.packed_yes HK.out)
  clear hb10 hv' hov hnv HP b0 b1 b2 b3 b4 b5 b6 blt
  go_wp2_with fail
  refine HS.out.mono ?_
  rintro e w11 ⟨rfl, rfl⟩
  by_cases hsm : Event.packed ⟨s, v, t⟩ = l
  · rw [tb_true hsm]
    have HY := hide (unpack_back (x := ⟨s, v, t⟩) hl9 HK.out (HPK.out.symm.trans hsm))
    clear hsm
    have z0 := HX10.out.zero.cell 0
    have z1 := HX10.out.zero.cell 1
    have z2 := HX10.out.zero.cell 2
    have z3 := HX10.out.zero.cell 3
    have z4 := HX10.out.zero.cell 4
    have z5 := HX10.out.zero.cell 5
    have z6 := HX10.out.zero.cell 6
    have zf0 := HX10.out.zero.frozen 0
    have zf1 := HX10.out.zero.frozen 1
    have zf2 := HX10.out.zero.frozen 2
    have zf3 := HX10.out.zero.frozen 3
    have zf4 := HX10.out.zero.frozen 4
    have zf5 := HX10.out.zero.frozen 5
    have zf6 := HX10.out.zero.frozen 6
    have zlt := HX10.out.zero.lt
    have b0 := HX10.out.box.cell 0
    have b1 := HX10.out.box.cell 1
    have b2 := HX10.out.box.cell 2
    have b3 := HX10.out.box.cell 3
    have b4 := HX10.out.box.cell 4
    have b5 := HX10.out.box.cell 5
    have b6 := HX10.out.box.cell 6
    have blt := HX10.out.box.lt
    go_wp2
    refine bodyPost_ret (ret_row_tmp rfl _ _ w.heap.size 46 [.string s, .int .i64 v, .int .i64 t.sort, .int .i64 t.num, .string t.text, .slice E1 t.names.length e1, .slice E2 t.kids.length e2] (HX10.out.zero.setAll [.string s, .int .i64 v, .int .i64 t.sort, .int .i64 t.num, .string t.text, .slice E1 t.names.length e1, .slice E2 t.kids.length e2] rfl) _ (.bool true) rfl rfl Tryz.underlying46 rfl (by kernel_rfl)) rfl ?_
    exact ⟨_, fq, by rw [HY.out.2], by rw [HY.out.1]; exact (HX10.out.fin [.string s, .int .i64 v, .int .i64 t.sort, .int .i64 t.num, .string t.text, .slice E1 t.names.length e1, .slice E2 t.kids.length e2]).1, (HX10.out.fin [.string s, .int .i64 v, .int .i64 t.sort, .int .i64 t.num, .string t.text, .slice E1 t.names.length e1, .slice E2 t.kids.length e2]).2⟩
  · rw [tb_false hsm]
    have HNO := hide (unpack_left HKE.out (fun h => hsm (HPK.out.trans h.2)))
    clear hsm
    have z0 := HX10.out.zero.cell 0
    have z1 := HX10.out.zero.cell 1
    have z2 := HX10.out.zero.cell 2
    have z3 := HX10.out.zero.cell 3
    have z4 := HX10.out.zero.cell 4
    have z5 := HX10.out.zero.cell 5
    have z6 := HX10.out.zero.cell 6
    have zf0 := HX10.out.zero.frozen 0
    have zf1 := HX10.out.zero.frozen 1
    have zf2 := HX10.out.zero.frozen 2
    have zf3 := HX10.out.zero.frozen 3
    have zf4 := HX10.out.zero.frozen 4
    have zf5 := HX10.out.zero.frozen 5
    have zf6 := HX10.out.zero.frozen 6
    have zlt := HX10.out.zero.lt
    go_wp2
    refine bodyPost_ret (ret_row_tmp rfl _ _ w.heap.size 46 [.string .empty, .int .i64 0, .int .i64 0, .int .i64 0, .string .empty, .slice none 0 0, .slice none 0 0] (HX10.out.zero.setAll [.string .empty, .int .i64 0, .int .i64 0, .int .i64 0, .string .empty, .slice none 0 0, .slice none 0 0] rfl) _ (.bool false) rfl rfl Tryz.underlying46 rfl (by kernel_rfl)) rfl ?_
    exact ⟨_, [], by rw [HNO.out.2], by rw [HNO.out.1]; exact (unp_none HX10.out.below [.string .empty, .int .i64 0, .int .i64 0, .int .i64 0, .string .empty, .slice none 0 0, .slice none 0 0]).1, (unp_none HX10.out.below [.string .empty, .int .i64 0, .int .i64 0, .int .i64 0, .string .empty, .slice none 0 0, .slice none 0 0]).2⟩
end Go.Proofs.YtnaecdoeldoipaaGreatDoor
