/-
  EventRead of the program. Printed by gen/eri.py.
-/
import Derived.Deep.Cut
import Derived.Test.YtnaecdoeldoipaaGreatDoorQErS
import Derived.Test.YtnaecdoeldoipaaGreatDoorQTrU
set_option linter.unusedVariables false
set_option linter.unusedSimpArgs false
namespace Go.Proofs.YtnaecdoeldoipaaGreatDoor
open Go.ChangeShapes Go.WideShapes Go.ChangeAt Go.RowKit

theorem data_toArray (l : List UInt8) : bl ⟨l.toArray⟩ = l := by simp [bl]
/-- how the program cuts it -/
theorem ev_cutI (w : World) {s x r : ByteArray} (hx : bl x = (Lib.cut (bl s) [64]).1) (hr : bl r = (Lib.cut (bl s) [64]).2.1) {e : Event} (he : e.ok) (hs : e.wr = s) :
    x = e.type_ ∧ ∃ o : Nat, Lib.indexByte (bl r) 123 = (o : Int) ∧ numOf (r.extract 0 o) = some e.version ∧ treeRead (r.extract o r.size) = e.body ∧ treeReadB (r.extract o r.size) = true := by
  have hc := Event.cut he
  rw [hs] at hc
  rw [hc] at hx hr
  simp only at hx hr
  have hb := Event.brace he
  rw [← hr] at hb
  have hsz := congrArg List.length hr
  rw [List.length_append, bl_len] at hsz
  have h1 : r.extract 0 (bl (dec e.version)).length = dec e.version := bl_inj (by
    rw [sub_bl, hr, List.drop_zero, Nat.sub_zero, List.take_left])
  have h2 : r.extract (bl (dec e.version)).length r.size = e.body.wr := bl_inj (by
    rw [sub_bl, hr, List.drop_left, List.take_of_length_le (by omega)])
  have h3 : readT e.body.wr = some e.body := by
    cases h : readT e.body.wr with
    | none => exact absurd rfl (readT_none h e.body he.2.2.2)
    | some k =>
      obtain ⟨a1, a2⟩ := readT_some h
      rw [Tree.wr_inj w a1 he.2.2.2 a2]
  refine ⟨bl_inj hx, _, hb, ?_, ?_, ?_⟩
  · rw [h1]
    exact numOf_dec _ (by have := he.2.1.1; omega) (by have := he.2.1.2; omega)
  · rw [h2]; unfold treeRead; rw [h3]; rfl
  · rw [h2]; unfold treeReadB; rw [h3]; rfl
theorem cut_sizes (a b : List UInt8) : (Lib.cut a b).1.length ≤ a.length ∧ (Lib.cut a b).2.1.length ≤ a.length := by
  unfold Lib.cut
  split
  · simp only [List.length_take, List.length_drop]; omega
  · simp
theorem ib_bounds (l : List UInt8) (c : UInt8) : -1 ≤ Lib.indexByte l c ∧ Lib.indexByte l c ≤ l.length := by
  refine ⟨Lib.indexByte_ge l c, ?_⟩
  rw [← Lib.index_one]
  exact Lib.index_le l [c]
theorem treeRead_bulk (w : World) (s : ByteArray) (hs : s.size ≤ 10000) : (treeRead s).bulk ≤ 50000 := by
  unfold treeRead
  cases h : readT s with
  | none => decide
  | some k =>
    obtain ⟨h1, h2⟩ := readT_some h
    have hR : RdK (w.alloc (.cells [.string s, .int .i64 0, .bool false].toArray 75)) w.heap.size s 0 (bl s) false :=
      ⟨0, Row.new w _ _, hs, by omega, fun _ => by omega, rfl⟩
    obtain ⟨e, w', k', us, fq, l', b', _, _, _, _, _, hp, ht, _⟩ := Calls.some_end (treeRdS_any 6 s (bl s) false w.heap.size 1 _ (by omega) (by omega) hR)
    have h3 := (ht k [] h1.1 Ender.nil rfl (by rw [h2, List.append_nil])).1
    rw [h3] at hp
    have := hp.2.1
    rw [bl_len] at this
    show k.bulk ≤ 50000
    omega
set_option maxRecDepth 100000 in
set_option maxHeartbeats 4000000 in
theorem implEventRead_any (s : ByteArray) (w : World) (hs : s.size ≤ 1048576) (hl : Lay w) (h7 : 5 < w.heap.size) :
    Calls Tryz.prog 25 #[.string s] w (EventReadRet s w) := by
  have HL0 := hide hl
  have H7 := hide h7
  clear hl
  go_enter Tryz.func25, Tryz.ntmps25
  go_upto_region 1 with fail
  generalize hw1 : w.alloc _ = w1
  have hb1 : Below w.heap.size w w1 := by rw [← hw1]; exact (Below.refl _ _).alloc (Nat.le_refl _) _
  have HZ := hide (show Row w1 w.heap.size 46 [.string ⟨#[]⟩, .int .i64 0, .int .i64 0, .int .i64 0, .string ⟨#[]⟩, .slice none 0 0, .slice none 0 0] from by rw [← hw1]; exact Row.new w _ _)
  have hz1 := HZ.out.lt
  have HB1 := hide hb1
  have HL1 := hide (HL0.out.below hb1)
  clear hw1 hb1
  obtain ⟨mm, hmm⟩ := HL1.out.max
  have HCU := hide (Tryz.strings_Cut s ⟨#[64]⟩ mm w1 (by omega) hmm)
  obtain ⟨x, hx⟩ : ∃ x : ByteArray, (⟨(Lib.cut s.data.toList (ByteArray.mk #[64]).data.toList).1.toArray⟩ : ByteArray) = x := ⟨_, rfl⟩
  obtain ⟨r, hr⟩ : ∃ x : ByteArray, (⟨(Lib.cut s.data.toList (ByteArray.mk #[64]).data.toList).2.1.toArray⟩ : ByteArray) = x := ⟨_, rfl⟩
  rw [hx, hr] at HCU
  have HX := hide (show bl x = (Lib.cut (bl s) [64]).1 from by rw [← hx, data_toArray]; rfl)
  have HRR := hide (show bl r = (Lib.cut (bl s) [64]).2.1 from by rw [← hr, data_toArray]; rfl)
  have hxs : x.size ≤ s.size := by have := congrArg List.length HX.out; rw [bl_len] at this; have h2 := (cut_sizes (bl s) [64]).1; rw [bl_len] at h2; omega
  have hrs : r.size ≤ s.size := by have := congrArg List.length HRR.out; rw [bl_len] at this; have h2 := (cut_sizes (bl s) [64]).2; rw [bl_len] at h2; omega
  generalize (Lib.cut s.data.toList (ByteArray.mk #[64]).data.toList).2.2 = fnd at HCU
  clear hx hr hmm
  go_wp2_with fail
  refine HCU.out.mono ?_
  rintro e w2 ⟨rfl, q2, hw2⟩
  have HZ2 := hide (show Row w2 w.heap.size 46 [.string ⟨#[]⟩, .int .i64 0, .int .i64 0, .int .i64 0, .string ⟨#[]⟩, .slice none 0 0, .slice none 0 0] from by rw [hw2]; exact HZ.out.drewN q2)
  have HB2 := hide (show Below w.heap.size w w2 from by rw [hw2]; exact below_drewN HB1.out q2)
  have HL2 := hide (HL0.out.below HB2.out)
  clear hw2 HCU HZ HB1 HL1 hz1
  have HIB := hide (Tryz.strings_IndexByte r 123 w2)
  obtain ⟨i, hi⟩ : ∃ i, Lib.indexByte r.data.toList (123 : Int).toNat.toUInt8 = i := ⟨_, rfl⟩
  rw [hi] at HIB
  have HI := hide (show Lib.indexByte (bl r) 123 = i from hi)
  have hib := ib_bounds (bl r) 123
  rw [HI.out, bl_len] at hib
  clear hi
  go_wp2_with fail
  refine HIB.out.mono ?_
  rintro e w3 ⟨rfl, hw3⟩
  rw [hw3]
  clear hw3 w3 HIB
  have HCUT := hide (fun (e : Event) (he : e.ok) (hs : e.wr = s) => ev_cutI w HX.out HRR.out he hs)
  have z0 := HZ2.out.cell 0
  have y0 := HZ2.out.frozen 0
  have z1 := HZ2.out.cell 1
  have y1 := HZ2.out.frozen 1
  have z2 := HZ2.out.cell 2
  have y2 := HZ2.out.frozen 2
  have z3 := HZ2.out.cell 3
  have y3 := HZ2.out.frozen 3
  have z4 := HZ2.out.cell 4
  have y4 := HZ2.out.frozen 4
  have z5 := HZ2.out.cell 5
  have y5 := HZ2.out.frozen 5
  have z6 := HZ2.out.cell 6
  have y6 := HZ2.out.frozen 6
  have lz := HZ2.out.lt
  by_cases hlen : (10000 : Int) < (s.size : Int)
  · skip
    have HNO := hide (show readE s = none from readE_long (by omega))
    go_wp2
    refine bodyPost_ret (ret_row_tmp rfl _ _ w.heap.size 46 [.string ⟨#[]⟩, .int .i64 0, .int .i64 0, .int .i64 0, .string ⟨#[]⟩, .slice none 0 0, .slice none 0 0] (HZ2.out.setAll [.string ⟨#[]⟩, .int .i64 0, .int .i64 0, .int .i64 0, .string ⟨#[]⟩, .slice none 0 0, .slice none 0 0] rfl) _ _ rfl rfl Tryz.underlying46 rfl (by kernel_rfl)) rfl ?_
    exact err_none HNO.out (HB2.out.trans (below_of_grown (setN_grown [.string ⟨#[]⟩, .int .i64 0, .int .i64 0, .int .i64 0, .string ⟨#[]⟩, .slice none 0 0, .slice none 0 0] 0 (grown_refl _ (some w.heap.size))) (Nat.le_refl _) HB2.out.size))
  by_cases hi0 : i < 0
  · skip
    have HNO := hide (show readE s = none from readE_no (fun e h1 h2 => by
      obtain ⟨-, o, h3, -⟩ := HCUT.out e h1 h2
      rw [HI.out] at h3
      omega))
    go_wp2
    refine bodyPost_ret (ret_row_tmp rfl _ _ w.heap.size 46 [.string ⟨#[]⟩, .int .i64 0, .int .i64 0, .int .i64 0, .string ⟨#[]⟩, .slice none 0 0, .slice none 0 0] (HZ2.out.setAll [.string ⟨#[]⟩, .int .i64 0, .int .i64 0, .int .i64 0, .string ⟨#[]⟩, .slice none 0 0, .slice none 0 0] rfl) _ _ rfl rfl Tryz.underlying46 rfl (by kernel_rfl)) rfl ?_
    exact err_none HNO.out (HB2.out.trans (below_of_grown (setN_grown [.string ⟨#[]⟩, .int .i64 0, .int .i64 0, .int .i64 0, .string ⟨#[]⟩, .slice none 0 0, .slice none 0 0] 0 (grown_refl _ (some w.heap.size))) (Nat.le_refl _) HB2.out.size))
  obtain ⟨p, rfl⟩ : ∃ p : Nat, i = (p : Int) := ⟨i.toNat, by omega⟩
  have hpr : p ≤ r.size := by omega
  have hp0 : (0 : Int) ≤ (p : Int) := by omega
  have hprI : (p : Int) ≤ (r.size : Int) := by omega
  have HNC := hide (readNum_any (r.extract 0 p) w2 (by rw [ByteArray.size_extract]; omega) HL2.out)
  obtain ⟨u1, hu1⟩ : ∃ u, r.extract 0 p = u := ⟨_, rfl⟩
  obtain ⟨u2, hu2⟩ : ∃ u, r.extract p r.size = u := ⟨_, rfl⟩
  have hu2s : u2.size ≤ 10000 := by rw [← hu2, ByteArray.size_extract]; omega
  have HU2 := hide hu2
  have HU1 := hide hu1
  rw [hu1] at HNC
  clear z0 y0 z1 y1 z2 y2 z3 y3 z4 y4 z5 y5 z6 y6 lz hib hi0
  obtain ⟨one, hone⟩ : ∃ b, (numOf u1).isSome = b := ⟨_, rfl⟩
  rw [hone] at HNC
  have HONE := hide hone
  clear hone
  go_wp2_with fail
  try rw [hu1]
  refine HNC.out.mono ?_
  rintro e w4 ⟨⟨v, rfl, hv, hvz⟩, hb4⟩
  have HVZ := hide hvz
  have HZ4 := hide (HZ2.out.below hb4 HZ2.out.lt)
  have HB4 := hide (HB2.out.trans (hb4.mono HB2.out.size))
  have HL4 := hide (HL0.out.below HB4.out)
  have HTC := hide (implTreeRead_any u2 w4 (by unfold maxLen; omega) HL4.out (Nat.lt_of_lt_of_le H7.out HB4.out.size))
  obtain ⟨two, htwo⟩ : ∃ b, treeReadB u2 = b := ⟨_, rfl⟩
  have HTWO := hide htwo
  have HTB := hide (treeRead_bulk w u2 hu2s)
  obtain ⟨k, hk⟩ : ∃ k, treeRead u2 = k := ⟨_, rfl⟩
  have HKK := hide hk
  rw [hk] at HTB
  unfold TreeReadRet at HTC
  rw [htwo, hk] at HTC
  clear hvz hb4 HNC HZ2 HB2 HL2 htwo hk
  go_wp2_with fail
  try rw [hu2]
  refine HTC.out.mono ?_
  rintro e w5 ⟨us, fq, rfl, ho5, hn5, hb5⟩
  obtain ⟨B1, d1, B2, d2, f1, f2, rfl, k0, k1, k2, k3, k4, efq⟩ := ho5.oTree
  have HO5 := hide ho5
  have HN5 := hide (hn5.mono (show w.heap.size + 1 ≤ w4.heap.size from HZ4.out.lt))
  have HZ5 := hide (HZ4.out.below hb5 HZ4.out.lt)
  have HB5 := hide (HB4.out.trans (hb5.mono HB4.out.size))
  clear ho5 hn5 hb5 HTC HZ4 HB4 HL4 k3 k4 efq
  go_upto_region 7 with fail
  generalize hw6 : w5.alloc _ = w6
  have hb6 : Below w5.heap.size w5 w6 := by rw [← hw6]; exact (Below.refl _ _).alloc (Nat.le_refl _) _
  have HT6 := hide (show Row w6 w5.heap.size 26 [.int .i64 k.sort, .int .i64 k.num, .string k.text, .slice B1 k.names.length d1, .slice B2 k.kids.length d2] from by rw [← hw6]; exact Row.new w5 _ _)
  have HO6 := hide (HO5.out.below hb6 HN5.out.lt)
  have HN6 := hide (HN5.out.below hb6 HN5.out.lt)
  have HZ6 := hide (HZ5.out.below hb6 HZ5.out.lt)
  have HB6 := hide (HB5.out.trans (hb6.mono HB5.out.size))
  clear hw6 hb6 HO5 HN5 HZ5 HB5
  have t0 := HT6.out.cell 0
  have t1 := HT6.out.cell 1
  have t2 := HT6.out.cell 2
  have t3 := HT6.out.cell 3
  have t4 := HT6.out.cell 4
  have tl := HT6.out.lt
  go_upto_region 8 with fail
  generalize hw7 : w6.alloc _ = w7
  have hb7 : Below w6.heap.size w6 w7 := by rw [← hw7]; exact (Below.refl _ _).alloc (Nat.le_refl _) _
  have HX7 := hide (show Row w7 w6.heap.size 46 [.string x, .int .i64 v, .int .i64 k.sort, .int .i64 k.num, .string k.text, .slice B1 k.names.length d1, .slice B2 k.kids.length d2] from by rw [← hw7]; exact Row.new w6 _ _)
  have HO7 := hide (HO6.out.below hb7 HN6.out.lt)
  have HN7 := hide (HN6.out.below hb7 HN6.out.lt)
  have HZ7 := hide (HZ6.out.below hb7 HZ6.out.lt)
  have HB7 := hide (HB6.out.trans (hb7.mono HB6.out.size))
  have HL7 := hide (HL0.out.below HB7.out)
  have hxl : x.size ≤ maxLen := by unfold maxLen; omega
  have HE := hide (show OwC w7 (Event.mk x v k).cells [.string x, .int .i64 v, .int .i64 k.sort, .int .i64 k.num, .string k.text, .slice B1 k.names.length d1, .slice B2 k.kids.length d2] fq from by
    obtain ⟨C1, e1, C2, e2, q1, q2, he, _, _, _, k3', k4', rfl⟩ := HO7.out.oTree
    simp only [List.cons.injEq, Value.slice.injEq, and_true, true_and] at he
    obtain ⟨⟨rfl, rfl⟩, rfl, rfl⟩ := he
    exact OwC.mEvent (x := Event.mk x v k) hxl (show (Lit.int .i64 v).wf = true from wfiR (by omega) (by omega)) k0 k1 k2 k3' k4')
  clear t0 t1 t2 t3 t4 tl hw7 hb7 HT6 HO6 HN6 HZ6 HB6 HO7 k0 k1 k2 hxl
  have HPL := hide (fun (e : Event) (he : e.ok) (hs : e.wr = s) => show e = ⟨x, v, k⟩ ∧ one = true ∧ two = true from by
    obtain ⟨h1, o, h2, h3, h4, h5⟩ := HCUT.out e he hs
    have h6 : p = o := by have := HI.out.symm.trans h2; omega
    subst h6
    rw [HU1.out] at h3
    rw [HU2.out] at h4 h5
    have h7 := HVZ.out _ h3
    have h8 := HONE.out
    rw [h3] at h8
    refine ⟨?_, h8.symm, HTWO.out.symm.trans h5⟩
    rw [h1, h7, ← HKK.out, h4])
  have q0 := HX7.out.cell 0
  have q1 := HX7.out.cell 1
  have q2 := HX7.out.cell 2
  have q3 := HX7.out.cell 3
  have q4 := HX7.out.cell 4
  have q5 := HX7.out.cell 5
  have q6 := HX7.out.cell 6
  have ql := HX7.out.lt
  have z0 := HZ7.out.cell 0
  have y0 := HZ7.out.frozen 0
  have z1 := HZ7.out.cell 1
  have y1 := HZ7.out.frozen 1
  have z2 := HZ7.out.cell 2
  have y2 := HZ7.out.frozen 2
  have z3 := HZ7.out.cell 3
  have y3 := HZ7.out.frozen 3
  have z4 := HZ7.out.cell 4
  have y4 := HZ7.out.frozen 4
  have z5 := HZ7.out.cell 5
  have y5 := HZ7.out.frozen 5
  have z6 := HZ7.out.cell 6
  have y6 := HZ7.out.frozen 6
  have lz := HZ7.out.lt
  clear hu1 hu2
  rcases one with _ | _
  · skip
    have HNO := hide (show readE s = none from readE_no (fun e h1 h2 => by have := (HPL.out e h1 h2).2.1; cases this))
    go_wp2
    refine bodyPost_ret (ret_row_tmp rfl _ _ w.heap.size 46 [.string ⟨#[]⟩, .int .i64 0, .int .i64 0, .int .i64 0, .string ⟨#[]⟩, .slice none 0 0, .slice none 0 0] (HZ7.out.setAll [.string ⟨#[]⟩, .int .i64 0, .int .i64 0, .int .i64 0, .string ⟨#[]⟩, .slice none 0 0, .slice none 0 0] rfl) _ _ rfl rfl Tryz.underlying46 rfl (by kernel_rfl)) rfl ?_
    exact err_none HNO.out (HB7.out.trans (below_of_grown (setN_grown [.string ⟨#[]⟩, .int .i64 0, .int .i64 0, .int .i64 0, .string ⟨#[]⟩, .slice none 0 0, .slice none 0 0] 0 (grown_refl _ (some w.heap.size))) (Nat.le_refl _) HB7.out.size))
  rcases two with _ | _
  · skip
    have HNO := hide (show readE s = none from readE_no (fun e h1 h2 => by have := (HPL.out e h1 h2).2.2; cases this))
    go_wp2
    refine bodyPost_ret (ret_row_tmp rfl _ _ w.heap.size 46 [.string ⟨#[]⟩, .int .i64 0, .int .i64 0, .int .i64 0, .string ⟨#[]⟩, .slice none 0 0, .slice none 0 0] (HZ7.out.setAll [.string ⟨#[]⟩, .int .i64 0, .int .i64 0, .int .i64 0, .string ⟨#[]⟩, .slice none 0 0, .slice none 0 0] rfl) _ _ rfl rfl Tryz.underlying46 rfl (by kernel_rfl)) rfl ?_
    exact err_none HNO.out (HB7.out.trans (below_of_grown (setN_grown [.string ⟨#[]⟩, .int .i64 0, .int .i64 0, .int .i64 0, .string ⟨#[]⟩, .slice none 0 0, .slice none 0 0] 0 (grown_refl _ (some w.heap.size))) (Nat.le_refl _) HB7.out.size))
  have HW := hide (implEventWrite_any (Event.mk x v k) _ fq w7 HE.out HN7.out.lt (by rw [Event.bulk_eq]; simp only; have := HTB.out; omega) HL7.out.tab)
  obtain ⟨t, ht⟩ : ∃ t, (Event.mk x v k).write = t := ⟨_, rfl⟩
  rw [ht] at HW
  have HTW := hide ht
  clear ht
  go_wp2_with fail
  refine HW.out.mono ?_
  rintro e w10 ⟨rfl, hb10⟩
  have HB10 := hide (HB7.out.trans (hb10.mono HB7.out.size))
  have HZ10 := hide (HZ7.out.below hb10 HZ7.out.lt)
  have HX10 := hide (HX7.out.below hb10 HX7.out.lt)
  have HE10 := hide (HE.out.below hb10 HN7.out.lt)
  have HN10 := hide (HN7.out.below hb10 HN7.out.lt)
  clear q0 q1 q2 q3 q4 q5 q6 ql z0 y0 z1 y1 z2 y2 z3 y3 z4 y4 z5 y5 z6 y6 lz hb10 HW HB7 HZ7 HX7 HE HN7
  have q0 := HX10.out.cell 0
  have q1 := HX10.out.cell 1
  have q2 := HX10.out.cell 2
  have q3 := HX10.out.cell 3
  have q4 := HX10.out.cell 4
  have q5 := HX10.out.cell 5
  have q6 := HX10.out.cell 6
  have ql := HX10.out.lt
  have z0 := HZ10.out.cell 0
  have y0 := HZ10.out.frozen 0
  have z1 := HZ10.out.cell 1
  have y1 := HZ10.out.frozen 1
  have z2 := HZ10.out.cell 2
  have y2 := HZ10.out.frozen 2
  have z3 := HZ10.out.cell 3
  have y3 := HZ10.out.frozen 3
  have z4 := HZ10.out.cell 4
  have y4 := HZ10.out.frozen 4
  have z5 := HZ10.out.cell 5
  have y5 := HZ10.out.frozen 5
  have z6 := HZ10.out.cell 6
  have y6 := HZ10.out.frozen 6
  have lz := HZ10.out.lt
  by_cases htx : t = s
  rotate_left
  · obtain ⟨e1, e2⟩ := ne_lists (fun h => htx (bl_inj h))
    have HNE := hide htx
    clear htx
    have HNO := hide (show readE s = none from readE_no (fun e h1 h2 => by
      have h3 := (HPL.out e h1 h2).1
      subst h3
      exact HNE.out (HTW.out.symm.trans ((Event.write_ok h1).trans h2))))
    go_wp2
    refine bodyPost_ret (ret_row_tmp rfl _ _ w.heap.size 46 [.string ⟨#[]⟩, .int .i64 0, .int .i64 0, .int .i64 0, .string ⟨#[]⟩, .slice none 0 0, .slice none 0 0] (HZ10.out.setAll [.string ⟨#[]⟩, .int .i64 0, .int .i64 0, .int .i64 0, .string ⟨#[]⟩, .slice none 0 0, .slice none 0 0] rfl) _ _ rfl rfl Tryz.underlying46 rfl (by kernel_rfl)) rfl ?_
    exact err_none HNO.out (HB10.out.trans (below_of_grown (setN_grown [.string ⟨#[]⟩, .int .i64 0, .int .i64 0, .int .i64 0, .string ⟨#[]⟩, .slice none 0 0, .slice none 0 0] 0 (grown_refl _ (some w.heap.size))) (Nat.le_refl _) HB10.out.size))
  obtain ⟨e1, e2⟩ := eq_lists (a := t) (b := s) (by rw [htx])
  have HTS := hide (HTW.out.trans htx)
  clear htx
  have HYES := hide (show readE s = some (Event.mk x v k) from by
    have hne : s ≠ .empty := fun h => by
      have h1 := HI.out
      have h2 := congrArg List.length HRR.out
      rw [h, bl_len] at h2
      have h3 := (cut_sizes (bl (.empty)) [64]).2
      rw [bl_len, ByteArray.size_empty] at h3
      have h4 : bl r = [] := List.eq_nil_of_length_eq_zero (by rw [bl_len]; omega)
      rw [h4] at h1
      simp only [Lib.indexByte] at h1
      omega
    obtain ⟨h1, h2⟩ := Event.write_eq HTS.out hne
    exact readE_yes w h1 h2)
  go_wp2
  refine bodyPost_ret (ret_row_tmp rfl _ _ w.heap.size 46 [.string x, .int .i64 v, .int .i64 k.sort, .int .i64 k.num, .string k.text, .slice B1 k.names.length d1, .slice B2 k.kids.length d2] (HZ10.out.setAll [.string x, .int .i64 v, .int .i64 k.sort, .int .i64 k.num, .string k.text, .slice B1 k.names.length d1, .slice B2 k.kids.length d2] rfl) _ _ rfl rfl Tryz.underlying46 rfl (by kernel_rfl)) rfl ?_
  have hgr := setN_grown [.string x, .int .i64 v, .int .i64 k.sort, .int .i64 k.num, .string k.text, .slice B1 k.names.length d1, .slice B2 k.kids.length d2] 0 (grown_refl w10 (some w.heap.size))
  have hno : w.heap.size ∉ fq := HN10.out.out (by omega)
  exact err_some HYES.out (HE10.out.grown hgr HN10.out.lt hno) ((HN10.out.grown hgr (fun q e => by injection e with e; subst e; exact hno)).mono (by omega)) (HB10.out.trans (below_of_grown hgr (Nat.le_refl _) HB10.out.size))
end Go.Proofs.YtnaecdoeldoipaaGreatDoor
