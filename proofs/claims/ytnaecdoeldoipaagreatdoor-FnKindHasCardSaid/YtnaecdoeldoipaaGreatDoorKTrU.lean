/-
  TreeRead of the program; how much the marks count at what is read.
-/
import Derived.Test.YtnaecdoeldoipaaGreatDoorKTrT
import Derived.Test.YtnaecdoeldoipaaGreatDoorKTrP2
import Derived.Test.YtnaecdoeldoipaaGreatDoorKTrQ
import Derived.Test.YtnaecdoeldoipaaGreatDoorKTreeTI
import Derived.Test.YtnaecdoeldoipaaGreatDoorKNTree
set_option linter.unusedVariables false
set_option linter.unusedSimpArgs false
namespace Go.Proofs.YtnaecdoeldoipaaGreatDoor
open Go.ChangeShapes Go.WideShapes Go.ChangeAt Go.RowKit

theorem treeJ_any (f : Nat) : TreeRdI f :=
  treeRdI_any (fun f' lv h1 h2 ih w g hl h7 hgw wr B1 n1 d1 ns us1 B2 n2 d2 ks us2 fi2 l hK hns hks => partT1_any h1 h2 ih hl h7 hgw hK hns hks) (fun f' lv h1 h2 ih w g hl h7 hgw wr B1 n1 d1 ns us1 B2 n2 d2 ks us2 fi2 l hK hns hks => partT2_any h1 h2 ih hl h7 hgw hK hns hks) f
theorem Tree.write_yes {k : Tree} (h : k.ok) : k.write = k.wr := by
  unfold Tree.write
  rw [if_pos (tb_true h)]
theorem Tree.write_no {k : Tree} (h : ¬ k.ok) : k.write = .empty := by
  unfold Tree.write
  rw [if_neg (by rw [tb_false h]; decide)]
set_option maxRecDepth 100000 in
set_option maxHeartbeats 2000000 in
theorem implTreeRead_any (s : ByteArray) (w : World) (hs : s.size ≤ maxLen) (hl : Lay w) (h7 : 5 < w.heap.size) :
    Calls Tryz.prog 15 #[.string s] w (TreeReadRet s w) := by
  unfold maxLen at hs
  have HL0 := hide hl
  have H7 := hide h7
  clear hl
  go_enter Tryz.func15, Tryz.ntmps15
  go_upto_region 1 with fail
  generalize hw1 : w.alloc _ = w1
  have hb1 : Below w.heap.size w w1 := by rw [← hw1]; exact (Below.refl _ _).alloc (Nat.le_refl _) _
  have HZ := hide (show Row w1 w.heap.size 26 [.int .i64 0, .int .i64 0, .string ⟨#[]⟩, .slice none 0 0, .slice none 0 0] from by rw [← hw1]; exact Row.new w _ _)
  have hz1 := HZ.out.lt
  have HB1 := hide hb1
  clear hw1 hb1
  by_cases hlen : (10000 : Int) < (s.size : Int)
  · have HN := hide (readT_long (s := s) (by omega))
    have z0 := HZ.out.cell 0
    have z1 := HZ.out.cell 1
    have z2 := HZ.out.cell 2
    have z3 := HZ.out.cell 3
    have z4 := HZ.out.cell 4
    have y0 := HZ.out.frozen 0
    have y1 := HZ.out.frozen 1
    have y2 := HZ.out.frozen 2
    have y3 := HZ.out.frozen 3
    have y4 := HZ.out.frozen 4
    go_wp2
    refine bodyPost_ret (ret_row_tmp rfl _ _ w.heap.size 26 [.int .i64 0, .int .i64 0, .string ⟨#[]⟩, .slice none 0 0, .slice none 0 0] (HZ.out.setAll [.int .i64 0, .int .i64 0, .string ⟨#[]⟩, .slice none 0 0, .slice none 0 0] rfl) _ _ rfl rfl Tryz.underlying26 rfl (by kernel_rfl)) rfl ?_
    exact trr_none HN.out (HB1.out.trans (below_of_grown (setN_grown [.int .i64 0, .int .i64 0, .string ⟨#[]⟩, .slice none 0 0, .slice none 0 0] 0 (grown_refl w1 (some w.heap.size))) (Nat.le_refl _) HB1.out.size))
  go_upto_region 4 with fail
  generalize hw2 : w1.alloc _ = w2
  have hb2 : Below w1.heap.size w1 w2 := by rw [← hw2]; exact (Below.refl _ _).alloc (Nat.le_refl _) _
  have HR := hide (show RdJ w2 w1.heap.size (bl s) false from ⟨s, by rw [← hw2]; exact Row.new w1 _ _, by omega, rfl⟩)
  have HZ2 := hide (HZ.out.below hb2 hz1)
  have HB2 := hide (HB1.out.trans (hb2.mono HB1.out.size))
  have HK := hide (treeJ_any 6 (bl s) false w1.heap.size 1 w2 (by omega) (by omega) (HL0.out.low HB2.out H7.out) (Nat.lt_of_lt_of_le H7.out HB1.out.size) HR.out)
  have hr2 := HR.out.lt
  clear hw2 hb2 HR
  go_wp2_with fail
  refine HK.out.mono ?_
  rintro e w3 ⟨k, us, fq, l3, b3, rfl, ho3, hn3, hr3, hg3, hp3, ht3, -⟩
  have HZ3 := hide (HZ2.out.grown hg3 (fun e => by injection e with e; omega))
  have HB3 := hide (HB2.out.trans (below_of_grown hg3 (by omega) HB2.out.size))
  have HT3 := hide ht3
  have hkb : k.bulk ≤ 50000 := by have := hp3.2.1; rw [bl_len] at this; omega
  obtain ⟨B1, d1, B2, d2, f1, f2, rfl, k0, k1, k2, k3, k4, efq⟩ := ho3.oTree
  obtain ⟨rest, hrow, hsz, hl3⟩ := hr3
  have HO3 := hide ho3
  have HN3 := hide (hn3.mono (show w.heap.size + 1 ≤ w2.heap.size from by omega))
  have HRow := hide hrow
  have HL3 := hide hl3
  have HPD := hide hp3
  go_upto_region 5 with fail
  generalize hw4 : w3.alloc _ = w4
  have hb4 : Below w3.heap.size w3 w4 := by rw [← hw4]; exact (Below.refl _ _).alloc (Nat.le_refl _) _
  have HBox := hide (show Row w4 w3.heap.size 26 [.int .i64 k.sort, .int .i64 k.num, .string k.text, .slice B1 k.names.length d1, .slice B2 k.kids.length d2] from by rw [← hw4]; exact Row.new w3 _ _)
  have HO4 := hide (HO3.out.below hb4 HN3.out.lt)
  have HN4 := hide (HN3.out.below hb4 HN3.out.lt)
  have HRow4 := hide (HRow.out.below hb4 HRow.out.lt)
  have HZ4 := hide (HZ3.out.below hb4 HZ3.out.lt)
  have HB4 := hide (HB3.out.trans (hb4.mono HB3.out.size))
  have HLY4 := hide (HL0.out.low HB4.out H7.out)
  have r1 := HRow4.out.cell 1
  have r2 := HRow4.out.cell 0
  have rl := HRow4.out.lt
  have q0 := HBox.out.cell 0
  have q1 := HBox.out.cell 1
  have q2 := HBox.out.cell 2
  have q3 := HBox.out.cell 3
  have q4 := HBox.out.cell 4
  have ql := HBox.out.lt
  have z0 := HZ4.out.cell 0
  have z1 := HZ4.out.cell 1
  have z2 := HZ4.out.cell 2
  have z3 := HZ4.out.cell 3
  have z4 := HZ4.out.cell 4
  have y0 := HZ4.out.frozen 0
  have y1 := HZ4.out.frozen 1
  have y2 := HZ4.out.frozen 2
  have y3 := HZ4.out.frozen 3
  have y4 := HZ4.out.frozen 4
  have lz := HZ4.out.lt
  have HNONE := hide (fun (W : World) (hrow : Row W w.heap.size 26 [.int .i64 0, .int .i64 0, .string ⟨#[]⟩, .slice none 0 0, .slice none 0 0]) (hb : Below w.heap.size w W) (h : readT s = none) => trr_none (w := w) (W := putN W w.heap.size 0 [.int .i64 0, .int .i64 0, .string ⟨#[]⟩, .slice none 0 0, .slice none 0 0]) h (hb.trans (below_of_grown (setN_grown _ 0 (grown_refl W (some w.heap.size))) (Nat.le_refl _) hb.size)))
  clear hw4 hb4 ho3 hn3 hrow hl3 hp3 ht3 hg3 HZ3 HB3 HO3 HN3 HRow HK k0 k1 k2 k3 k4 efq
  by_cases hbad : b3 = true
  · subst hbad
    have HNO := hide (readT_no HT3.out (fun h => by cases h.1))
    go_wp2
    refine bodyPost_ret (ret_row_tmp rfl _ _ w.heap.size 26 [.int .i64 0, .int .i64 0, .string ⟨#[]⟩, .slice none 0 0, .slice none 0 0] (HZ4.out.setAll [.int .i64 0, .int .i64 0, .string ⟨#[]⟩, .slice none 0 0, .slice none 0 0] rfl) _ _ rfl rfl Tryz.underlying26 rfl (by kernel_rfl)) rfl ?_
    exact HNONE.out _ HZ4.out HB4.out HNO.out
  obtain rfl : b3 = false := by simpa using hbad
  clear hbad
  have HNE := hide (show 0 < s.size from by have h := (HPD.out.2.2 rfl).1; rw [bl_len] at h; omega)
  by_cases hend : bl rest = []
  rotate_left
  · have HNO := hide (readT_no HT3.out (fun h => hend (HL3.out.symm.trans h.2.1)))
    obtain ⟨e1, e2⟩ := ne_lists (a := rest) (b := ⟨#[]⟩) hend
    have e3 : ¬ (rest.toList = []) := fun e => e1 (e.trans (by simp))
    have e4 : (rest.toList == []) = false := by simpa using e3
    clear hend
    go_wp2
    refine bodyPost_ret (ret_row_tmp rfl _ _ w.heap.size 26 [.int .i64 0, .int .i64 0, .string ⟨#[]⟩, .slice none 0 0, .slice none 0 0] (HZ4.out.setAll [.int .i64 0, .int .i64 0, .string ⟨#[]⟩, .slice none 0 0, .slice none 0 0] rfl) _ _ rfl rfl Tryz.underlying26 rfl (by kernel_rfl)) rfl ?_
    exact HNONE.out _ HZ4.out HB4.out HNO.out
  have e5 : rest = ByteArray.empty := bl_inj hend
  have HL0 := hide (show l3 = [] from by rw [HL3.out]; exact hend)
  clear hend
  subst e5
  have HKW := hide (implTreeWrite_any k _ fq w4 HO4.out HN4.out.lt (by omega) HLY4.out.tab)
  go_wp2_with fail
  refine HKW.out.mono ?_
  rintro e w6 ⟨rfl, hb6⟩
  have HB6 := hide (HB4.out.trans (hb6.mono HB4.out.size))
  have HZ6 := hide (HZ4.out.below hb6 HZ4.out.lt)
  have HBox6 := hide (HBox.out.below hb6 HBox.out.lt)
  have HO6 := hide (HO4.out.below hb6 HN4.out.lt)
  have HN6 := hide (HN4.out.below hb6 HN4.out.lt)
  clear r1 r2 rl q0 q1 q2 q3 q4 ql z0 z1 z2 z3 z4 y0 y1 y2 y3 y4 lz HKW HB4 HZ4 HO4 HN4 HBox HRow4 hb6
  have q0 := HBox6.out.cell 0
  have q1 := HBox6.out.cell 1
  have q2 := HBox6.out.cell 2
  have q3 := HBox6.out.cell 3
  have q4 := HBox6.out.cell 4
  have ql := HBox6.out.lt
  have z0 := HZ6.out.cell 0
  have z1 := HZ6.out.cell 1
  have z2 := HZ6.out.cell 2
  have z3 := HZ6.out.cell 3
  have z4 := HZ6.out.cell 4
  have y0 := HZ6.out.frozen 0
  have y1 := HZ6.out.frozen 1
  have y2 := HZ6.out.frozen 2
  have y3 := HZ6.out.frozen 3
  have y4 := HZ6.out.frozen 4
  have lz := HZ6.out.lt
  by_cases htx : k.ok ∧ k.wr = s
  rotate_left
  · have HNO := hide (readT_no HT3.out (fun h => htx ⟨h.2.2.1, h.2.2.2⟩))
    obtain ⟨e1, e2⟩ := ne_lists (a := k.write) (b := s) (fun h => by
      have h2 := bl_inj h
      by_cases hk : k.ok
      · rw [Tree.write_yes hk] at h2
        exact htx ⟨hk, h2⟩
      · rw [Tree.write_no hk] at h2
        have h3 := HNE.out
        rw [← h2] at h3
        exact absurd h3 (by decide))
    clear htx
    go_wp2
    refine bodyPost_ret (ret_row_tmp rfl _ _ w.heap.size 26 [.int .i64 0, .int .i64 0, .string ⟨#[]⟩, .slice none 0 0, .slice none 0 0] (HZ6.out.setAll [.int .i64 0, .int .i64 0, .string ⟨#[]⟩, .slice none 0 0, .slice none 0 0] rfl) _ _ rfl rfl Tryz.underlying26 rfl (by kernel_rfl)) rfl ?_
    exact HNONE.out _ HZ6.out HB6.out HNO.out
  have HYES := hide (readT_yes HT3.out htx.1 htx.2)
  obtain ⟨e1, e2⟩ := eq_lists (a := k.write) (b := s) (by rw [Tree.write_yes htx.1, htx.2])
  clear htx
  go_wp2
  refine bodyPost_ret (ret_row_tmp rfl _ _ w.heap.size 26 [.int .i64 k.sort, .int .i64 k.num, .string k.text, .slice B1 k.names.length d1, .slice B2 k.kids.length d2] (HZ6.out.setAll [.int .i64 k.sort, .int .i64 k.num, .string k.text, .slice B1 k.names.length d1, .slice B2 k.kids.length d2] rfl) _ _ rfl rfl Tryz.underlying26 rfl (by kernel_rfl)) rfl ?_
  have hgr := setN_grown [.int .i64 k.sort, .int .i64 k.num, .string k.text, .slice B1 k.names.length d1, .slice B2 k.kids.length d2] 0 (grown_refl w6 (some w.heap.size))
  have hno : w.heap.size ∉ fq := HN6.out.out (by omega)
  exact trr_some HYES.out (HO6.out.grown hgr HN6.out.lt hno) ((HN6.out.grown hgr (fun b e => by injection e with e; subst e; exact hno)).mono (by omega)) (HB6.out.trans (below_of_grown hgr (Nat.le_refl _) HB6.out.size))
end Go.Proofs.YtnaecdoeldoipaaGreatDoor
