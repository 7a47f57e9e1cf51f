/-
  EventUnpack of the program.
-/
import Derived.Test.YtbjblchhenmgjaaUnpC
set_option linter.unusedVariables false
set_option linter.unusedSimpArgs false
namespace Go.Proofs.Ytbjblchhenmgjaa
open Go.ChangeShapes Go.WideShapes Go.ChangeAt Go.RowKit

set_option maxRecDepth 100000 in
set_option maxHeartbeats 4000000 in
theorem implEventUnpack_any (l : List UInt8) (A : Option Addr) (n c : Nat) (fp : List Nat) (w : World) (ho : Ow w (.s 1 l.length (l.flatMap byteC)) (.slice A n c) fp) (hf : Lt fp w.heap.size) (hsz : l.length ≤ 1048576) :
    Calls Try.prog 17 #[.slice A n c] w (UnpOut l w) := by
  obtain ⟨rfl, hnc, hcm⟩ := ho.nlen
  have HO := hide ho
  have HZ0 := hide (Row.new w 28 [.string .empty, .int .i64 0, .int .i64 0, .int .i64 0, .string .empty, .slice none 0 0, .slice none 0 0])
  have HB0 := hide (show Below w.heap.size w (w.alloc (.cells #[.string .empty, .int .i64 0, .int .i64 0, .int .i64 0, .string .empty, .slice none 0 0, .slice none 0 0] 28)) from (Below.refl _ _).alloc (Nat.le_refl _) _)
  clear ho
  go_enter Try.func17, Try.ntmps17
  by_cases hl : 9000 < l.length
  · have hli : (9000 : Int) < (l.length : Int) := by omega
    have HNO := hide (unpack_long hl)
    go_upto_region 1 with fail
    generalize hw1 : w.alloc _ = w1
    have HZ1 := hide (show Row w1 w.heap.size 28 [.string .empty, .int .i64 0, .int .i64 0, .int .i64 0, .string .empty, .slice none 0 0, .slice none 0 0] from by rw [← hw1]; exact HZ0.out)
    have HB1 := hide (show Below w.heap.size w w1 from by rw [← hw1]; exact HB0.out)
    clear hw1
    have z0 := HZ1.out.cell 0
    have z1 := HZ1.out.cell 1
    have z2 := HZ1.out.cell 2
    have z3 := HZ1.out.cell 3
    have z4 := HZ1.out.cell 4
    have z5 := HZ1.out.cell 5
    have z6 := HZ1.out.cell 6
    have zf0 := HZ1.out.frozen 0
    have zf1 := HZ1.out.frozen 1
    have zf2 := HZ1.out.frozen 2
    have zf3 := HZ1.out.frozen 3
    have zf4 := HZ1.out.frozen 4
    have zf5 := HZ1.out.frozen 5
    have zf6 := HZ1.out.frozen 6
    have zlt := HZ1.out.lt
    clear hl
    go_wp2
    refine bodyPost_ret (ret_row_tmp rfl _ _ w.heap.size 28 [.string .empty, .int .i64 0, .int .i64 0, .int .i64 0, .string .empty, .slice none 0 0, .slice none 0 0] (HZ1.out.setAll [.string .empty, .int .i64 0, .int .i64 0, .int .i64 0, .string .empty, .slice none 0 0, .slice none 0 0] rfl) _ (.bool false) rfl rfl Try.underlying28 rfl (by kernel_rfl)) rfl ?_
    exact ⟨_, [], by rw [HNO.out.2], by rw [HNO.out.1]; exact (unp_none HB1.out [.string .empty, .int .i64 0, .int .i64 0, .int .i64 0, .string .empty, .slice none 0 0, .slice none 0 0]).1, (unp_none HB1.out [.string .empty, .int .i64 0, .int .i64 0, .int .i64 0, .string .empty, .slice none 0 0, .slice none 0 0]).2⟩
  have hli : ¬ ((9000 : Int) < (l.length : Int)) := by omega
  have hl9 : l.length ≤ 9000 := by omega
  clear hl
  go_upto_region 4 with fail
  generalize hw3 : (w.alloc _).alloc _ = w3
  have hB13 : Below (w.heap.size + 1) (w.alloc (.cells #[.string .empty, .int .i64 0, .int .i64 0, .int .i64 0, .string .empty, .slice none 0 0, .slice none 0 0] 28)) w3 := by rw [← hw3]; exact (Below.refl _ _).alloc (by simp) _
  have HZ3 := hide (HZ0.out.below hB13 (Nat.lt_succ_self _))
  have HB3 := hide (HB0.out.trans (hB13.mono (Nat.le_succ _)))
  have HR3 : Hid (RdI w3 (w.heap.size + 1) l l false) := hide ⟨A, c, fp, by rw [← hw3]; exact Row.atU _ _ _ _ (by simp), HO.out.below HB3.out hf, hf.mono (Nat.le_succ _), hl9⟩
  have lt3 := HR3.out.lt
  clear hB13 hw3
  go_wp2_with fail
  refine (textI_any HR3.out).mono ?_
  rintro e w4 ⟨s, l1, bd1, rfl, hs, h4, hg4, hok1⟩
  have lt4 := Nat.lt_of_lt_of_le lt3 hg4.size
  have HZ4 := hide (HZ3.out.grown hg4 (fun e => by injection e with e; omega))
  have HB4 := hide (HB3.out.trans (below_of_grown hg4 (Nat.le_succ _) HB3.out.size))
  have HK1 := hide hok1
  have HR4 := hide h4
  clear h4 hg4 hok1 HR3 HZ3
  go_wp2_with fail
  refine (numI_any HR4.out).mono ?_
  rintro e w6 ⟨v, l2, bd2, rfl, hv0, hv1, h6, hg6, hok2⟩
  have lt6 := Nat.lt_of_lt_of_le lt4 hg6.size
  have HZ6 := hide (HZ4.out.grown hg6 (fun e => by injection e with e; omega))
  have HB6 := hide (HB4.out.trans (below_of_grown hg6 (Nat.le_succ _) HB4.out.size))
  have HK2 := hide hok2
  have HTR := hide (show Calls Try.prog 82 #[.pointer (some ⟨w.heap.size + 1, 0, none⟩), .int .i64 1] w6 (TreeOut RdI (w.heap.size + 1) l bd2 (pTree true 6 l2) w6) from treeRdI_any 6 l l2 bd2 (w.heap.size + 1) 1 _ rfl (Nat.le_refl _) h6)
  clear h6 hg6 hok2 HR4 HZ4
  go_wp2_with fail
  refine HTR.out.mono ?_
  rintro e w8 ⟨t, us, fq, l3, bd3, rfl, ho8, hn8, h8, hg8, hok3⟩
  have lt8 := Nat.lt_of_lt_of_le lt6 hg8.size
  have HZ8 := hide (HZ6.out.grown hg8 (fun e => by injection e with e; omega))
  have HB8 := hide (HB6.out.trans (below_of_grown hg8 (Nat.le_succ _) HB6.out.size))
  have HKE := hide (okr_event HK1.out HK2.out hok3)
  have HO8 := hide ho8
  obtain ⟨E1, e1, E2, e2, f1, f2, rfl, -, -, -, -, -, -⟩ := HO8.out.oTree
  have hX := UnpAt.made (s := s) (v := v) HO8.out (hn8.mono (by omega)) (by unfold maxLen; omega) (wfi (by omega) (by omega)) HZ8.out HB8.out
  have HX := hide hX
  have HR8 := hide h8
  clear hX ho8 HO8 hn8 h8 hg8 hok3 HK1 HK2 HZ6 HTR
  go_upto_region 5 with fail
  generalize hwq : World.alloc w8 _ = wq
  have HXQ := hide (show UnpAt w wq w8.heap.size ⟨s, v, t⟩ [.string s, .int .i64 v, .int .i64 t.sort, .int .i64 t.num, .string t.text, .slice E1 t.names.length e1, .slice E2 t.kids.length e2] fq from by rw [← hwq]; exact HX.out)
  have hbq : Below w8.heap.size w8 wq := by rw [← hwq]; exact (Below.refl _ _).alloc (Nat.le_refl _) _
  obtain ⟨A', c', fp', hr', -, -, -⟩ := HR8.out.low hbq lt8
  have r0 := hr'.cell 0
  have r1 := hr'.cell 1
  have lr := hr'.lt
  clear hr' hbq hwq HX HR8 HZ8 HB8
  by_cases hb3 : bd3 = true
  · subst hb3
    have HNO := hide (unpack_gone HKE.out (.inl rfl))
    have z0 := HXQ.out.zero.cell 0
    have z1 := HXQ.out.zero.cell 1
    have z2 := HXQ.out.zero.cell 2
    have z3 := HXQ.out.zero.cell 3
    have z4 := HXQ.out.zero.cell 4
    have z5 := HXQ.out.zero.cell 5
    have z6 := HXQ.out.zero.cell 6
    have zf0 := HXQ.out.zero.frozen 0
    have zf1 := HXQ.out.zero.frozen 1
    have zf2 := HXQ.out.zero.frozen 2
    have zf3 := HXQ.out.zero.frozen 3
    have zf4 := HXQ.out.zero.frozen 4
    have zf5 := HXQ.out.zero.frozen 5
    have zf6 := HXQ.out.zero.frozen 6
    have zlt := HXQ.out.zero.lt
    go_wp2
    refine bodyPost_ret (ret_row_tmp rfl _ _ w.heap.size 28 [.string .empty, .int .i64 0, .int .i64 0, .int .i64 0, .string .empty, .slice none 0 0, .slice none 0 0] (HXQ.out.zero.setAll [.string .empty, .int .i64 0, .int .i64 0, .int .i64 0, .string .empty, .slice none 0 0, .slice none 0 0] rfl) _ (.bool false) rfl rfl Try.underlying28 rfl (by kernel_rfl)) rfl ?_
    exact ⟨_, [], by rw [HNO.out.2], by rw [HNO.out.1]; exact (unp_none HXQ.out.below [.string .empty, .int .i64 0, .int .i64 0, .int .i64 0, .string .empty, .slice none 0 0, .slice none 0 0]).1, (unp_none HXQ.out.below [.string .empty, .int .i64 0, .int .i64 0, .int .i64 0, .string .empty, .slice none 0 0, .slice none 0 0]).2⟩
  obtain rfl : bd3 = false := by simpa using hb3
  obtain ⟨m, hm⟩ : ∃ m, l3.length = m := ⟨_, rfl⟩
  rw [hm] at r0
  by_cases hn9 : m = 0
  rotate_left
  · have hnI : 0 < m := by omega
    have HNO := hide (unpack_gone HKE.out (.inr (fun e => hn9 (by rw [← hm, e]; rfl))))
    clear hm
    have z0 := HXQ.out.zero.cell 0
    have z1 := HXQ.out.zero.cell 1
    have z2 := HXQ.out.zero.cell 2
    have z3 := HXQ.out.zero.cell 3
    have z4 := HXQ.out.zero.cell 4
    have z5 := HXQ.out.zero.cell 5
    have z6 := HXQ.out.zero.cell 6
    have zf0 := HXQ.out.zero.frozen 0
    have zf1 := HXQ.out.zero.frozen 1
    have zf2 := HXQ.out.zero.frozen 2
    have zf3 := HXQ.out.zero.frozen 3
    have zf4 := HXQ.out.zero.frozen 4
    have zf5 := HXQ.out.zero.frozen 5
    have zf6 := HXQ.out.zero.frozen 6
    have zlt := HXQ.out.zero.lt
    clear hn9
    go_wp2
    refine bodyPost_ret (ret_row_tmp rfl _ _ w.heap.size 28 [.string .empty, .int .i64 0, .int .i64 0, .int .i64 0, .string .empty, .slice none 0 0, .slice none 0 0] (HXQ.out.zero.setAll [.string .empty, .int .i64 0, .int .i64 0, .int .i64 0, .string .empty, .slice none 0 0, .slice none 0 0] rfl) _ (.bool false) rfl rfl Try.underlying28 rfl (by kernel_rfl)) rfl ?_
    exact ⟨_, [], by rw [HNO.out.2], by rw [HNO.out.1]; exact (unp_none HXQ.out.below [.string .empty, .int .i64 0, .int .i64 0, .int .i64 0, .string .empty, .slice none 0 0, .slice none 0 0]).1, (unp_none HXQ.out.below [.string .empty, .int .i64 0, .int .i64 0, .int .i64 0, .string .empty, .slice none 0 0, .slice none 0 0]).2⟩
  subst hn9
  obtain rfl : l3 = [] := List.eq_nil_of_length_eq_zero hm
  have hl0 := event_ne HKE.out rfl
  have hl0I : ((l.length : Int) == 0) = false := beq_eq_false_iff_ne.2 (by omega)
  have HBK := hide (okr_bulk HKE.out)
  have HP := hide (implEventPack_any ⟨s, v, t⟩ _ _ wq HXQ.out.ow HXQ.out.new.lt (by have := HBK.out; omega))
  have b0 := HXQ.out.box.cell 0
  have b1 := HXQ.out.box.cell 1
  have b2 := HXQ.out.box.cell 2
  have b3 := HXQ.out.box.cell 3
  have b4 := HXQ.out.box.cell 4
  have b5 := HXQ.out.box.cell 5
  have b6 := HXQ.out.box.cell 6
  have blt := HXQ.out.box.lt
  have HL0 := hide hl0
  clear hm hb3 hl0
  go_wp2_with fail
  refine HP.out.mono ?_
  rintro e w10 ⟨v', rfl, hv', hb10⟩
  obtain ⟨fpv, hov, hnv⟩ := hv'.toOw
  obtain ⟨A2, c2, rfl, _, _⟩ := hov.slice
  have HX10 := hide (HXQ.out.step hb10)
  have HS := hide (eqBytes_any (Event.packed ⟨s, v, t⟩) l A2 A c2 c w10 (hov.bytesAt hnv.lt) ((HO.out.below HX10.out.below hf).bytesAt (hf.up HX10.out.below)) (by have := Event.packed_len ⟨s, v, t⟩; omega) (by omega))
  clear hb10 hv' hov hnv HP b0 b1 b2 b3 b4 b5 b6 blt
  go_wp2_with fail
  refine HS.out.mono ?_
  rintro e w11 ⟨rfl, hb11⟩
  have HX11 := hide (HX10.out.step hb11)
  clear hb11
  by_cases hsm : Event.packed ⟨s, v, t⟩ = l
  · rw [tb_true hsm]
    have HY := hide (unpack_back (x := ⟨s, v, t⟩) hl9 (packed_ok hsm HL0.out) ((Event.packed_yes (packed_ok hsm HL0.out)).symm.trans hsm))
    clear hsm
    have z0 := HX11.out.zero.cell 0
    have z1 := HX11.out.zero.cell 1
    have z2 := HX11.out.zero.cell 2
    have z3 := HX11.out.zero.cell 3
    have z4 := HX11.out.zero.cell 4
    have z5 := HX11.out.zero.cell 5
    have z6 := HX11.out.zero.cell 6
    have zf0 := HX11.out.zero.frozen 0
    have zf1 := HX11.out.zero.frozen 1
    have zf2 := HX11.out.zero.frozen 2
    have zf3 := HX11.out.zero.frozen 3
    have zf4 := HX11.out.zero.frozen 4
    have zf5 := HX11.out.zero.frozen 5
    have zf6 := HX11.out.zero.frozen 6
    have zlt := HX11.out.zero.lt
    have b0 := HX11.out.box.cell 0
    have b1 := HX11.out.box.cell 1
    have b2 := HX11.out.box.cell 2
    have b3 := HX11.out.box.cell 3
    have b4 := HX11.out.box.cell 4
    have b5 := HX11.out.box.cell 5
    have b6 := HX11.out.box.cell 6
    have blt := HX11.out.box.lt
    go_wp2
    refine bodyPost_ret (ret_row_tmp rfl _ _ w.heap.size 28 [.string s, .int .i64 v, .int .i64 t.sort, .int .i64 t.num, .string t.text, .slice E1 t.names.length e1, .slice E2 t.kids.length e2] (HX11.out.zero.setAll [.string s, .int .i64 v, .int .i64 t.sort, .int .i64 t.num, .string t.text, .slice E1 t.names.length e1, .slice E2 t.kids.length e2] rfl) _ (.bool true) rfl rfl Try.underlying28 rfl (by kernel_rfl)) rfl ?_
    exact ⟨_, fq, by rw [HY.out.2], by rw [HY.out.1]; exact (HX11.out.fin [.string s, .int .i64 v, .int .i64 t.sort, .int .i64 t.num, .string t.text, .slice E1 t.names.length e1, .slice E2 t.kids.length e2]).1, (HX11.out.fin [.string s, .int .i64 v, .int .i64 t.sort, .int .i64 t.num, .string t.text, .slice E1 t.names.length e1, .slice E2 t.kids.length e2]).2⟩
  · rw [tb_false hsm]
    have HNO := hide (unpack_left HKE.out (fun h => hsm ((Event.packed_yes h.1).trans h.2)))
    clear hsm
    have z0 := HX11.out.zero.cell 0
    have z1 := HX11.out.zero.cell 1
    have z2 := HX11.out.zero.cell 2
    have z3 := HX11.out.zero.cell 3
    have z4 := HX11.out.zero.cell 4
    have z5 := HX11.out.zero.cell 5
    have z6 := HX11.out.zero.cell 6
    have zf0 := HX11.out.zero.frozen 0
    have zf1 := HX11.out.zero.frozen 1
    have zf2 := HX11.out.zero.frozen 2
    have zf3 := HX11.out.zero.frozen 3
    have zf4 := HX11.out.zero.frozen 4
    have zf5 := HX11.out.zero.frozen 5
    have zf6 := HX11.out.zero.frozen 6
    have zlt := HX11.out.zero.lt
    go_wp2
    refine bodyPost_ret (ret_row_tmp rfl _ _ w.heap.size 28 [.string .empty, .int .i64 0, .int .i64 0, .int .i64 0, .string .empty, .slice none 0 0, .slice none 0 0] (HX11.out.zero.setAll [.string .empty, .int .i64 0, .int .i64 0, .int .i64 0, .string .empty, .slice none 0 0, .slice none 0 0] rfl) _ (.bool false) rfl rfl Try.underlying28 rfl (by kernel_rfl)) rfl ?_
    exact ⟨_, [], by rw [HNO.out.2], by rw [HNO.out.1]; exact (unp_none HX11.out.below [.string .empty, .int .i64 0, .int .i64 0, .int .i64 0, .string .empty, .slice none 0 0, .slice none 0 0]).1, (unp_none HX11.out.below [.string .empty, .int .i64 0, .int .i64 0, .int .i64 0, .string .empty, .slice none 0 0, .slice none 0 0]).2⟩
end Go.Proofs.Ytbjblchhenmgjaa
