/-
  What EventRead hands back: plain. EventRead of the reference. Printed by gen/ers.py.
-/
import Derived.Lib.IndexMore
import Derived.Lib.IndexBytes
import Derived.Deep.Cut
import Derived.Test.YtnaecdoeldoipaaGreatDoorQTrS5
import Derived.Test.YtnaecdoeldoipaaGreatDoorQTrS2
import Derived.Test.YtnaecdoeldoipaaGreatDoorQEvWrite
set_option linter.unusedVariables false
set_option linter.unusedSimpArgs false
namespace Go.Proofs.YtnaecdoeldoipaaGreatDoor
open Go.ChangeShapes Go.WideShapes Go.ChangeAt Go.RowKit

theorem Calls.some_end {P : Program} {f : FuncId} {args : Array Value} {w : World} {R : Ending → World → Prop} (h : Calls P f args w R) : ∃ e w', R e w' := by
  obtain ⟨e, w', _, hr, _⟩ := h []
  exact ⟨e, w', hr⟩
/-- a good tree is known by its text: the reader's contract says so, in any world -/
theorem Tree.wr_inj (w : World) {a b : Tree} (ha : a.ok) (hb : b.ok) (h : a.wr = b.wr) : a = b := by
  have hs := tok_size ha
  have hR : RdK (w.alloc (.cells [.string a.wr, .int .i64 0, .bool false].toArray 75)) w.heap.size a.wr 0 (bl a.wr) false :=
    ⟨0, Row.new w _ _, by omega, by omega, fun _ => by omega, rfl⟩
  obtain ⟨e, w', k, us, fq, l', b', _, _, _, _, _, _, ht, _⟩ := Calls.some_end (treeRdS_any 6 a.wr (bl a.wr) false w.heap.size 1 _ (by omega) (by omega) hR)
  have h1 := ht a [] ha.1 Ender.nil rfl (by rw [List.append_nil])
  have h2 := ht b [] hb.1 Ender.nil rfl (by rw [h, List.append_nil])
  exact h1.1.symm.trans h2.1
theorem ib_at : ∀ (a r : List UInt8) (c : UInt8), (∀ x ∈ a, x ≠ c) → Lib.indexByte (a ++ c :: r) c = a.length
  | [], r, c, _ => by simp [Lib.indexByte]
  | x :: a, r, c, h => by
    have ih := ib_at a r c (fun y hy => h y (by simp [hy]))
    have hx : (x == c) = false := by simpa using h x (by simp)
    simp only [List.cons_append, Lib.indexByte, hx, ih]
    have hn : ((a.length : Int) == -1) = false := beq_eq_false_iff_ne.2 (by omega)
    simp [hn]
theorem cut_at (a r : List UInt8) (c : UInt8) (h : ∀ x ∈ a, x ≠ c) : Lib.cut (a ++ c :: r) [c] = (a, r, true) := by
  unfold Lib.cut
  rw [Lib.index_one, ib_at a r c h, if_pos (by omega)]
  simp
theorem dec_chars {z : Int} {x : UInt8} (h : x ∈ bl (dec z)) : x = 45 ∨ (48 ≤ x.toNat ∧ x.toNat ≤ 57) := by
  have e : bl (dec z) = Lib.itoa z := by unfold bl; exact dec_bytes z
  rw [e] at h
  unfold Lib.itoa at h
  split at h
  · rcases List.mem_cons.1 h with rfl | h
    · exact .inl rfl
    · exact .inr (digits_mem _ _ (Nat.le_refl _) x h)
  · exact .inr (digits_mem _ _ (Nat.le_refl _) x h)
theorem Tree.form_head {k : Tree} (h : k.sort = 5) : ∃ r, bl k.wr = 123 :: r := by
  rw [Tree.wr_eq, h]
  simp only [show ¬ ((5 : Int) = 1) by decide, show ¬ ((5 : Int) = 2) by decide, show ¬ ((5 : Int) = 3) by decide, show ¬ ((5 : Int) = 4) by decide, if_false, if_true, bl_app]
  exact ⟨_, rfl⟩
theorem Event.wr_bl (x : Event) : bl x.wr = bl x.type_ ++ 64 :: (bl (dec x.version) ++ bl x.body.wr) := by
  unfold Event.wr
  rw [bl_app, bl_app, bl_app, List.append_assoc, List.append_assoc]
  rfl
theorem Event.type_no {x : Event} (h : x.ok) : ∀ c ∈ bl x.type_, c ≠ 64 := fun c hc => by
  have := nameOk_chars h.1
  rw [List.all_eq_true] at this
  exact nameCh_not (this c hc) (by decide)
/-- the text cut at the first @ -/
theorem Event.cut {x : Event} (h : x.ok) : Lib.cut (bl x.wr) [64] = (bl x.type_, bl (dec x.version) ++ bl x.body.wr, true) := by
  rw [Event.wr_bl, cut_at _ _ _ (Event.type_no h)]
theorem Event.brace {x : Event} (h : x.ok) : Lib.indexByte (bl (dec x.version) ++ bl x.body.wr) 123 = (bl (dec x.version)).length := by
  obtain ⟨r, e⟩ := Tree.form_head h.2.2.1
  rw [e]
  refine ib_at _ _ _ (fun c hc hn => ?_)
  subst hn
  rcases dec_chars hc with h | h
  · exact absurd h (by decide)
  · exact absurd h (by decide)
theorem Event.wr_inj (w : World) {a b : Event} (ha : a.ok) (hb : b.ok) (h : a.wr = b.wr) : a = b := by
  have c1 := Event.cut ha
  have c2 := Event.cut hb
  rw [← h, c1] at c2
  simp only [Prod.mk.injEq, and_true] at c2
  obtain ⟨e1, e2⟩ := c2
  have b1 := Event.brace ha
  have b2 := Event.brace hb
  rw [← e2, b1] at b2
  have hl : (bl (dec a.version)).length = (bl (dec b.version)).length := by omega
  obtain ⟨e3, e4⟩ := List.append_inj e2 hl
  have e5 := numOf_dec a.version (by have := ha.2.1.1; omega) (by have := ha.2.1.2; omega)
  have e6 := numOf_dec b.version (by have := hb.2.1.1; omega) (by have := hb.2.1.2; omega)
  rw [bl_inj e3, e6] at e5
  injection e5 with e5
  have e7 := Tree.wr_inj w ha.2.2.2 hb.2.2.2 (bl_inj e4)
  obtain ⟨t, v, k⟩ := a
  obtain ⟨t', v', k'⟩ := b
  simp only at e1 e5 e7
  obtain rfl := bl_inj e1
  rw [e5, e7]
/-- the event whose text it is -/
noncomputable def readE (s : ByteArray) : Option Event := @dite _ (∃ k : Event, k.ok ∧ k.wr = s) (Classical.propDecidable _) (fun h => some h.choose) (fun _ => none)
theorem readE_some {s : ByteArray} {k : Event} (h : readE s = some k) : k.ok ∧ k.wr = s := by
  unfold readE at h
  split at h
  · next hx =>
    injection h with h
    rw [← h]
    exact hx.choose_spec
  · cases h
theorem readE_none {s : ByteArray} (h : readE s = none) (k : Event) (hk : k.ok) : k.wr ≠ s := by
  unfold readE at h
  split at h
  · cases h
  · next hx => exact fun e => hx ⟨k, hk, e⟩
theorem readE_yes (w : World) {s : ByteArray} {k : Event} (hk : k.ok) (e : k.wr = s) : readE s = some k := by
  cases h : readE s with
  | none => exact absurd e (readE_none h k hk)
  | some k2 =>
    obtain ⟨h1, h2⟩ := readE_some h
    rw [Event.wr_inj w h1 hk (h2.trans e.symm)]
theorem readE_no {s : ByteArray} (h : ∀ k : Event, k.ok → k.wr = s → False) : readE s = none := by
  cases h2 : readE s with
  | none => rfl
  | some k2 => exact (h k2 (readE_some h2).1 (readE_some h2).2).elim
theorem eok_size {k : Event} (h : k.ok) : k.wr.size ≤ 9640 := by
  have h1 := tok_size h.2.2.2
  have h2 := h.1.2.1
  have h3 := dec_size k.version (by have := h.2.1.1; omega) (by have := h.2.1.2; omega)
  have e := congrArg List.length (Event.wr_bl k)
  simp only [List.length_append, List.length_cons, bl_len] at e
  omega
theorem readE_long {s : ByteArray} (h : 10000 < s.size) : readE s = none := readE_no fun k hk e => by
  have := eok_size hk
  rw [e] at this
  omega
/-- how the reference reads it -/
theorem ev_taken {s x : ByteArray} {l1 l2 l3 l4 : List UInt8} {ok b3 b4 : Bool} {v : Int} {k : Tree} (h1 : Named64 (bl s) x l1) (h2 : Eaten [64] l1 ok l2) (h3 : ok = true → NumTakenD l2 false v l3 b3) (h4 : TakesT 1 l3 b3 k l4 b4) {e : Event} (he : e.ok) (hs : e.wr = s) :
    e = ⟨x, v, k⟩ ∧ b4 = false ∧ l4 = [] := by
  have e0 := Event.wr_bl e
  rw [hs] at e0
  obtain ⟨rfl, rfl⟩ := h1.2 _ _ he.1 e0
  obtain ⟨rfl, rfl⟩ := h2.yes (r := bl (dec e.version) ++ bl e.body.wr) rfl
  obtain ⟨r, hr⟩ := Tree.form_head he.2.2.1
  obtain ⟨rfl, rfl, rfl⟩ := h3 rfl e.version (bl e.body.wr) (by have := he.2.1; omega) (fun c q e => by rw [hr] at e; injection e with e _; subst e; decide) rfl rfl
  obtain ⟨rfl, rfl, rfl⟩ := h4 e.body [] he.2.2.2.1 Ender.nil rfl (by rw [List.append_nil])
  exact ⟨rfl, rfl, rfl⟩
def Event.zero_ : Event := ⟨.empty, 0, Tree.zero_⟩
noncomputable def eventRead (s : ByteArray) : Event := (readE s).getD Event.zero_
noncomputable def eventReadB (s : ByteArray) : Bool := (readE s).isSome
def EventReadRet (s : ByteArray) (w : World) (e : Ending) (w' : World) : Prop :=
  ∃ us fq, e = .returned (.tuple #[.agg us.toArray, .bool (eventReadB s)]) ∧ OwC w' (eventRead s).cells us fq ∧ New w' fq w.heap.size ∧ Below w.heap.size w w'
theorem err_none {s : ByteArray} {w W : World} (h : readE s = none) (hg : Below w.heap.size w W) : EventReadRet s w (.returned (.tuple #[.agg [.string ⟨#[]⟩, .int .i64 0, .int .i64 0, .int .i64 0, .string ⟨#[]⟩, .slice none 0 0, .slice none 0 0].toArray, .bool false])) W := by
  unfold EventReadRet eventRead eventReadB
  rw [h]
  refine ⟨_, [], rfl, ?_, New.nil _ _, hg⟩
  exact OwC.mEvent (x := Event.zero_) (f1 := []) (f2 := []) (by decide) (by decide) (by decide) (by decide) (by decide) (Ow.nil_ W 1 strC) (Ow.nil_ W 5 Tree.cells)
theorem err_some {s : ByteArray} {e : Event} {w W : World} {us : List Value} {fq : List Nat} (h : readE s = some e) (ho : OwC W e.cells us fq) (hn : New W fq w.heap.size) (hg : Below w.heap.size w W) : EventReadRet s w (.returned (.tuple #[.agg us.toArray, .bool true])) W := by
  unfold EventReadRet eventRead eventReadB
  rw [h]
  exact ⟨us, fq, rfl, ho, hn, hg⟩
end Go.Proofs.YtnaecdoeldoipaaGreatDoor
set_option linter.unusedVariables false
set_option linter.unusedSimpArgs false
namespace Go.Proofs.YtnaecdoeldoipaaGreatDoor
open Go.ChangeShapes Go.WideShapes Go.ChangeAt Go.RowKit

def NumOutE (g : Nat) (s : ByteArray) (l : List UInt8) (ok : Bool) (w : World) (e : Ending) (w' : World) : Prop :=
  ∃ (n : Int) (l' : List UInt8) (bad' : Bool), e = .returned (.int .i64 n) ∧ (-9999999999 ≤ n ∧ n ≤ 9999999999) ∧ RdK w' g s 0 l' bad' ∧ (ok = true → NumTakenD l false n l' bad') ∧ (bad' = false → ok = true) ∧ w.grownBy w' (some g)
theorem numE_any {s : ByteArray} {l : List UInt8} {g : Nat} {ok : Bool} {w : World} (h : RdK w g s 0 l (!ok)) :
    Calls Tryz.prog 66 #[.pointer (some ⟨g, 0, none⟩)] w (NumOutE g s l ok w) := by
  refine (numG_any h).mono ?_
  rintro e w' ⟨n, l', b', h1, h2, h3, h4, _, h5, h6⟩
  exact ⟨n, l', b', h1, h2, h3, fun ho => by rw [ho] at h4; exact h4, fun hb => by have := h5 hb; simpa using this, h6⟩
theorem Event.write_eq {e : Event} {s : ByteArray} (h : e.write = s) (hs : s ≠ .empty) : e.ok ∧ e.wr = s := by
  unfold Event.write at h
  by_cases hk : e.ok
  · rw [if_pos (tb_true hk)] at h
    exact ⟨hk, h⟩
  · rw [if_neg (by rw [tb_false hk]; simp)] at h
    exact absurd h.symm hs
theorem Event.write_ok {e : Event} (h : e.ok) : e.write = e.wr := by
  unfold Event.write
  rw [if_pos (tb_true h)]
theorem Event.wr_ne {e : Event} : e.wr ≠ .empty := fun h => by
  have e0 := Event.wr_bl e
  rw [h] at e0
  have := congrArg List.length e0
  simp only [List.length_append, List.length_cons, bl_len, ByteArray.size_empty] at this
  omega
set_option maxRecDepth 100000 in
set_option maxHeartbeats 4000000 in
theorem specEventRead_any (s : ByteArray) (w : World) (hs : s.size ≤ maxLen) :
    Calls Tryz.prog 24 #[.string s] w (EventReadRet s w) := by
  unfold maxLen at hs
  go_enter Tryz.func24, Tryz.ntmps24
  go_upto_region 1 with fail
  generalize hw1 : w.alloc _ = w1
  have hb1 : Below w.heap.size w w1 := by rw [← hw1]; exact (Below.refl _ _).alloc (Nat.le_refl _) _
  have HZ := hide (show Row w1 w.heap.size 46 [.string ⟨#[]⟩, .int .i64 0, .int .i64 0, .int .i64 0, .string ⟨#[]⟩, .slice none 0 0, .slice none 0 0] from by rw [← hw1]; exact Row.new w _ _)
  have hz1 := HZ.out.lt
  have HB1 := hide hb1
  clear hw1 hb1
  by_cases hlen : (10000 : Int) < (s.size : Int)
  · skip
    have z0 := HZ.out.cell 0
    have y0 := HZ.out.frozen 0
    have z1 := HZ.out.cell 1
    have y1 := HZ.out.frozen 1
    have z2 := HZ.out.cell 2
    have y2 := HZ.out.frozen 2
    have z3 := HZ.out.cell 3
    have y3 := HZ.out.frozen 3
    have z4 := HZ.out.cell 4
    have y4 := HZ.out.frozen 4
    have z5 := HZ.out.cell 5
    have y5 := HZ.out.frozen 5
    have z6 := HZ.out.cell 6
    have y6 := HZ.out.frozen 6
    have HNO := hide (show readE s = none from readE_long (by omega))
    go_wp2
    refine bodyPost_ret (ret_row_tmp rfl _ _ w.heap.size 46 [.string ⟨#[]⟩, .int .i64 0, .int .i64 0, .int .i64 0, .string ⟨#[]⟩, .slice none 0 0, .slice none 0 0] (HZ.out.setAll [.string ⟨#[]⟩, .int .i64 0, .int .i64 0, .int .i64 0, .string ⟨#[]⟩, .slice none 0 0, .slice none 0 0] rfl) _ _ rfl rfl Tryz.underlying46 rfl (by kernel_rfl)) rfl ?_
    exact err_none HNO.out (HB1.out.trans (below_of_grown (setN_grown [.string ⟨#[]⟩, .int .i64 0, .int .i64 0, .int .i64 0, .string ⟨#[]⟩, .slice none 0 0, .slice none 0 0] 0 (grown_refl _ (some w.heap.size))) (Nat.le_refl _) HB1.out.size))
  go_upto_region 4 with fail
  generalize hw2 : w1.alloc _ = w2
  have hb2 : Below w1.heap.size w1 w2 := by rw [← hw2]; exact (Below.refl _ _).alloc (Nat.le_refl _) _
  have HR := hide (show RdK w2 w1.heap.size s 0 (bl s) false from ⟨0, by rw [← hw2]; exact Row.new w1 _ _, by omega, by omega, fun _ => by omega, rfl⟩)
  have HZ2 := hide (HZ.out.below hb2 hz1)
  have HB2 := hide (HB1.out.trans (hb2.mono HB1.out.size))
  have hr2 := HR.out.lt
  have hgz : w.heap.size < w1.heap.size := hz1
  obtain ⟨g, hg⟩ : ∃ g, w1.heap.size = g := ⟨_, rfl⟩
  rw [hg] at HR hr2 hgz ⊢
  have HC := hide (name64_any HR.out (by omega) HR.out.hat)
  clear hw2 hb2 hg HZ HB1 hz1
  go_wp2_with fail
  refine HC.out.mono ?_
  rintro e w3 ⟨x, l1, rfl, hxs, hr3, hnm, hg3⟩
  have HNM := hide hnm
  have HR3 := hide hr3
  have HZ3 := hide (HZ2.out.grown hg3 (fun e => by injection e with e; omega))
  have HB3 := hide (HB2.out.trans (below_of_grown hg3 (by omega) HB2.out.size))
  have hs23 := hg3.size
  clear hnm hr3 hg3 HC HR HZ2 HB2
  go_upto_region 5 with fail
  generalize hw4 : w3.alloc _ = w4
  have hb4 : Below w3.heap.size w3 w4 := by rw [← hw4]; exact (Below.refl _ _).alloc (Nat.le_refl _) _
  have HX4 := hide (show Row w4 w3.heap.size 46 [.string x, .int .i64 0, .int .i64 0, .int .i64 0, .string ⟨#[]⟩, .slice none 0 0, .slice none 0 0] from by rw [← hw4]; exact Row.new w3 _ _)
  have HR4 := hide (HR3.out.below hb4)
  have HZ4 := hide (HZ3.out.below hb4 HZ3.out.lt)
  have HB4 := hide (HB3.out.trans (hb4.mono HB3.out.size))
  have hgb : g < w3.heap.size := by omega
  obtain ⟨b, hb⟩ : ∃ b, w3.heap.size = b := ⟨_, rfl⟩
  rw [hb] at HX4 hgb ⊢
  have HC := hide (eat1_any HR4.out (by omega) ⟨#[64]⟩ (by decide) (by decide))
  clear hw4 hb4 hb HR3 HZ3 HB3 hs23
  go_wp2_with fail
  refine HC.out.mono ?_
  rintro e w5 ⟨ok, l2, rfl, hr5, hea, hg5⟩
  have HEA := hide (show Eaten [64] l1 ok l2 from hea)
  have HR5 := hide (show RdK w5 g s 0 l2 (!ok) from by simpa using hr5)
  have HX5 := hide (HX4.out.grown hg5 (fun e => by injection e with e; omega))
  have HZ5 := hide (HZ4.out.grown hg5 (fun e => by injection e with e; omega))
  have HB5 := hide (HB4.out.trans (below_of_grown hg5 (by omega) HB4.out.size))
  have HC2 := hide (numE_any HR5.out)
  clear hr5 hea hg5 HC HR4 HX4 HZ4 HB4
  go_wp2_with fail
  refine HC2.out.mono ?_
  rintro e w6 ⟨v, l3, b3, rfl, hv, hr6, hnt, hbo, hg6⟩
  have HNT := hide hnt
  have HBO := hide hbo
  have HR6 := hide hr6
  have HX6 := hide (HX5.out.grown hg6 (fun e => by injection e with e; omega))
  have HZ6 := hide (HZ5.out.grown hg6 (fun e => by injection e with e; omega))
  have HB6 := hide (HB5.out.trans (below_of_grown hg6 (by omega) HB5.out.size))
  clear hr6 hnt hbo hg6 HC2 HR5 HX5 HZ5 HB5
  have x1 := HX6.out.cell 1
  have x1f := HX6.out.frozen 1
  have xl := HX6.out.lt
  go_upto_region 7 with fail
  generalize hw7 : World.setCell _ _ _ = w7
  have hb7 : Below b w6 w7 := by rw [← hw7]; exact (Below.refl _ _).setCell (p := ⟨b, 1, none⟩) (Nat.le_refl _) _
  have HX7 := hide (show Row w7 b 46 [.string x, .int .i64 v, .int .i64 0, .int .i64 0, .string ⟨#[]⟩, .slice none 0 0, .slice none 0 0] from by rw [← hw7]; exact HX6.out.set 1 _)
  have HR7 := hide (HR6.out.low hb7 hgb)
  have HZ7 := hide (HZ6.out.below hb7 (by omega))
  have HB7 := hide (HB6.out.trans (hb7.mono (by omega)))
  have HK := hide (treeRdS_any 6 s l3 b3 g 1 w7 (by omega) (by omega) HR7.out)
  clear hw7 hb7 x1 x1f xl HX6 HR6 HZ6 HB6
  go_wp2_with fail
  refine HK.out.mono ?_
  rintro e w8 ⟨k, us, fq, l4, b4, rfl, ho8, hn8, hr8, hg8, hp8, ht8, hb34⟩
  have HT8 := hide ht8
  have HBB := hide hb34
  have hl3s : l3.length ≤ 10000 := HR7.out.len
  have hkb : k.bulk ≤ 50000 := by have := hp8.2.1; omega
  obtain ⟨B1, d1, B2, d2, f1, f2, rfl, k0, k1, k2, k3, k4, efq⟩ := ho8.oTree
  have hb7s : b < w7.heap.size := HX7.out.lt
  have HO8 := hide ho8
  have HN8 := hide (hn8.mono (show b + 1 ≤ w7.heap.size from hb7s))
  have HX8 := hide (HX7.out.grown hg8 (fun e => by injection e with e; omega))
  have HZ8 := hide (HZ7.out.grown hg8 (fun e => by injection e with e; omega))
  have HB8 := hide (HB7.out.trans (below_of_grown hg8 (by omega) HB7.out.size))
  have HR8 := hide hr8
  have HLT := hide (show x.size ≤ maxLen from by unfold maxLen; omega)
  clear ho8 hn8 hr8 hg8 hp8 ht8 hb34 HK HR7 HX7 HZ7 HB7
  have x0 := HX8.out.cell 0
  have p0 := HX8.out.frozen 0
  have x1 := HX8.out.cell 1
  have p1 := HX8.out.frozen 1
  have x2 := HX8.out.cell 2
  have p2 := HX8.out.frozen 2
  have x3 := HX8.out.cell 3
  have p3 := HX8.out.frozen 3
  have x4 := HX8.out.cell 4
  have p4 := HX8.out.frozen 4
  have x5 := HX8.out.cell 5
  have p5 := HX8.out.frozen 5
  have x6 := HX8.out.cell 6
  have p6 := HX8.out.frozen 6
  have xl := HX8.out.lt
  go_upto_region 8 with fail
  generalize hw9 : World.setCell (World.setCell (World.setCell (World.setCell (World.setCell _ _ _) _ _) _ _) _ _) _ _ = w9
  have hput : putN w8 b 2 [.int .i64 k.sort, .int .i64 k.num, .string k.text, .slice B1 k.names.length d1, .slice B2 k.kids.length d2] = w9 := hw9
  have hgr9 : w8.grownBy w9 (some b) := by rw [← hput]; exact setN_grown _ _ (grown_refl _ _)
  have hb9 : Below b w8 w9 := below_of_grown hgr9 (Nat.le_refl _) (Nat.le_of_lt xl)
  have HX9 := hide (show Row w9 b 46 [.string x, .int .i64 v, .int .i64 k.sort, .int .i64 k.num, .string k.text, .slice B1 k.names.length d1, .slice B2 k.kids.length d2] from by
    rw [← hput]
    exact Row.setN [.int .i64 k.sort, .int .i64 k.num, .string k.text, .slice B1 k.names.length d1, .slice B2 k.kids.length d2] [.string x, .int .i64 v] [.int .i64 0, .int .i64 0, .string ⟨#[]⟩, .slice none 0 0, .slice none 0 0] rfl HX8.out)
  have hnob : b ∉ fq := HN8.out.out (Nat.lt_succ_self _)
  have HO9 := hide (HO8.out.grown hgr9 HN8.out.lt hnob)
  have HN9 := hide (HN8.out.grown hgr9 (fun q e => by injection e with e; subst e; exact hnob))
  have HZ9 := hide (HZ8.out.below hb9 (by omega))
  have HB9 := hide (HB8.out.trans (hb9.mono (by omega)))
  have HR9 := hide (HR8.out.low hb9 hgb)
  have HE := hide (show OwC w9 (Event.mk x v k).cells [.string x, .int .i64 v, .int .i64 k.sort, .int .i64 k.num, .string k.text, .slice B1 k.names.length d1, .slice B2 k.kids.length d2] fq from by
    obtain ⟨C1, e1, C2, e2, q1, q2, he, _, _, _, k3', k4', rfl⟩ := HO9.out.oTree
    simp only [List.cons.injEq, Value.slice.injEq, and_true, true_and] at he
    obtain ⟨⟨rfl, rfl⟩, rfl, rfl⟩ := he
    exact OwC.mEvent (x := Event.mk x v k) HLT.out (show (Lit.int .i64 v).wf = true from wfiR (by omega) (by omega)) k0 k1 k2 k3' k4')
  have hxz : x.size ≤ 10000 := hxs
  clear x0 x1 x2 x3 x4 x5 x6 p0 p1 p2 p3 p4 p5 p6 xl hw9 hput hgr9 hb9 hnob HX8 HZ8 HB8 HR8 HO8 HN8 HO9 k0 k1 k2 k3 k4 efq
  have HPL := hide (fun (e : Event) (he : e.ok) (hs : e.wr = s) => ev_taken HNM.out HEA.out HNT.out HT8.out he hs)
  obtain ⟨n, hrow, hsz, hn6, hnb, hl4⟩ := HR9.out
  have HRow := hide hrow
  have HL4 := hide hl4
  have HNB := hide hnb
  clear hrow hl4 hnb
  have r1 := HRow.out.cell 1
  have r2 := HRow.out.cell 2
  have rl := HRow.out.lt
  have q0 := HX9.out.cell 0
  have q1 := HX9.out.cell 1
  have q2 := HX9.out.cell 2
  have q3 := HX9.out.cell 3
  have q4 := HX9.out.cell 4
  have q5 := HX9.out.cell 5
  have q6 := HX9.out.cell 6
  have ql := HX9.out.lt
  have z0 := HZ9.out.cell 0
  have y0 := HZ9.out.frozen 0
  have z1 := HZ9.out.cell 1
  have y1 := HZ9.out.frozen 1
  have z2 := HZ9.out.cell 2
  have y2 := HZ9.out.frozen 2
  have z3 := HZ9.out.cell 3
  have y3 := HZ9.out.frozen 3
  have z4 := HZ9.out.cell 4
  have y4 := HZ9.out.frozen 4
  have z5 := HZ9.out.cell 5
  have y5 := HZ9.out.frozen 5
  have z6 := HZ9.out.cell 6
  have y6 := HZ9.out.frozen 6
  have lz := HZ9.out.lt
  by_cases hbad : b4 = true
  · subst hbad
    have HNO := hide (show readE s = none from readE_no (fun e h1 h2 => by have := (HPL.out e h1 h2).2.1; cases this))
    go_wp2
    refine bodyPost_ret (ret_row_tmp rfl _ _ w.heap.size 46 [.string ⟨#[]⟩, .int .i64 0, .int .i64 0, .int .i64 0, .string ⟨#[]⟩, .slice none 0 0, .slice none 0 0] (HZ9.out.setAll [.string ⟨#[]⟩, .int .i64 0, .int .i64 0, .int .i64 0, .string ⟨#[]⟩, .slice none 0 0, .slice none 0 0] rfl) _ _ rfl rfl Tryz.underlying46 rfl (by kernel_rfl)) rfl ?_
    exact err_none HNO.out (HB9.out.trans (below_of_grown (setN_grown [.string ⟨#[]⟩, .int .i64 0, .int .i64 0, .int .i64 0, .string ⟨#[]⟩, .slice none 0 0, .slice none 0 0] 0 (grown_refl _ (some w.heap.size))) (Nat.le_refl _) HB9.out.size))
  obtain rfl : b4 = false := by simpa using hbad
  have hns := HNB.out rfl
  clear hbad
  by_cases hend : n = s.size
  rotate_left
  · have hni : ¬ ((n : Int) = (s.size : Int)) := by omega
    have HNO := hide (show readE s = none from readE_no (fun e h1 h2 => by
      have h3 := (HPL.out e h1 h2).2.2
      have h4 := congrArg List.length (HL4.out.symm.trans h3)
      rw [List.length_drop, bl_len] at h4
      simp at h4
      omega))
    go_wp2
    refine bodyPost_ret (ret_row_tmp rfl _ _ w.heap.size 46 [.string ⟨#[]⟩, .int .i64 0, .int .i64 0, .int .i64 0, .string ⟨#[]⟩, .slice none 0 0, .slice none 0 0] (HZ9.out.setAll [.string ⟨#[]⟩, .int .i64 0, .int .i64 0, .int .i64 0, .string ⟨#[]⟩, .slice none 0 0, .slice none 0 0] rfl) _ _ rfl rfl Tryz.underlying46 rfl (by kernel_rfl)) rfl ?_
    exact err_none HNO.out (HB9.out.trans (below_of_grown (setN_grown [.string ⟨#[]⟩, .int .i64 0, .int .i64 0, .int .i64 0, .string ⟨#[]⟩, .slice none 0 0, .slice none 0 0] 0 (grown_refl _ (some w.heap.size))) (Nat.le_refl _) HB9.out.size))
  have HEND := hide hend
  have hei : (n : Int) = (s.size : Int) := by omega
  have hej : ((n : Int) == (s.size : Int)) = true := by simp [hend]
  have HW := hide (specEventWrite_any (Event.mk x v k) _ fq w9 HE.out HN9.out.lt (by rw [Event.bulk_eq]; simp only; omega))
  obtain ⟨t, ht⟩ : ∃ t, (Event.mk x v k).write = t := ⟨_, rfl⟩
  rw [ht] at HW
  have HTW := hide ht
  clear hend ht hns
  rw [hei] at r1
  clear hei
  go_wp2_with fail
  refine HW.out.mono ?_
  rintro e w10 ⟨rfl, hb10⟩
  have HB10 := hide (HB9.out.trans (hb10.mono HB9.out.size))
  have HZ10 := hide (HZ9.out.below hb10 HZ9.out.lt)
  have HX10 := hide (HX9.out.below hb10 HX9.out.lt)
  have HE10 := hide (HE.out.below hb10 HN9.out.lt)
  have HN10 := hide (HN9.out.below hb10 HN9.out.lt)
  clear r1 r2 rl q0 q1 q2 q3 q4 q5 q6 ql z0 y0 z1 y1 z2 y2 z3 y3 z4 y4 z5 y5 z6 y6 lz hb10 HW HB9 HZ9 HX9 HE HN9 HRow HR9
  have q0 := HX10.out.cell 0
  have q1 := HX10.out.cell 1
  have q2 := HX10.out.cell 2
  have q3 := HX10.out.cell 3
  have q4 := HX10.out.cell 4
  have q5 := HX10.out.cell 5
  have q6 := HX10.out.cell 6
  have ql := HX10.out.lt
  have z0 := HZ10.out.cell 0
  have y0 := HZ10.out.frozen 0
  have z1 := HZ10.out.cell 1
  have y1 := HZ10.out.frozen 1
  have z2 := HZ10.out.cell 2
  have y2 := HZ10.out.frozen 2
  have z3 := HZ10.out.cell 3
  have y3 := HZ10.out.frozen 3
  have z4 := HZ10.out.cell 4
  have y4 := HZ10.out.frozen 4
  have z5 := HZ10.out.cell 5
  have y5 := HZ10.out.frozen 5
  have z6 := HZ10.out.cell 6
  have y6 := HZ10.out.frozen 6
  have lz := HZ10.out.lt
  by_cases htx : t = s
  rotate_left
  · obtain ⟨e1, e2⟩ := ne_lists (fun h => htx (bl_inj h))
    have HNE := hide htx
    clear htx
    have HNO := hide (show readE s = none from readE_no (fun e h1 h2 => by
      have h3 := (HPL.out e h1 h2).1
      subst h3
      exact HNE.out (HTW.out.symm.trans ((Event.write_ok h1).trans h2))))
    go_wp2
    refine bodyPost_ret (ret_row_tmp rfl _ _ w.heap.size 46 [.string ⟨#[]⟩, .int .i64 0, .int .i64 0, .int .i64 0, .string ⟨#[]⟩, .slice none 0 0, .slice none 0 0] (HZ10.out.setAll [.string ⟨#[]⟩, .int .i64 0, .int .i64 0, .int .i64 0, .string ⟨#[]⟩, .slice none 0 0, .slice none 0 0] rfl) _ _ rfl rfl Tryz.underlying46 rfl (by kernel_rfl)) rfl ?_
    exact err_none HNO.out (HB10.out.trans (below_of_grown (setN_grown [.string ⟨#[]⟩, .int .i64 0, .int .i64 0, .int .i64 0, .string ⟨#[]⟩, .slice none 0 0, .slice none 0 0] 0 (grown_refl _ (some w.heap.size))) (Nat.le_refl _) HB10.out.size))
  obtain ⟨e1, e2⟩ := eq_lists (a := t) (b := s) (by rw [htx])
  have HTS := hide (HTW.out.trans htx)
  clear htx
  by_cases hemp : s = .empty
  · have f1_ : s.toList = [] := by rw [hemp, Lib.toList_data]; rfl
    have f2_ : (s.toList == []) = true := by simpa using f1_
    have HEM := hide hemp
    clear hemp
    have HNO := hide (show readE s = none from readE_no (fun e h1 h2 => Event.wr_ne (h2.trans HEM.out)))
    go_wp2
    refine bodyPost_ret (ret_row_tmp rfl _ _ w.heap.size 46 [.string ⟨#[]⟩, .int .i64 0, .int .i64 0, .int .i64 0, .string ⟨#[]⟩, .slice none 0 0, .slice none 0 0] (HZ10.out.setAll [.string ⟨#[]⟩, .int .i64 0, .int .i64 0, .int .i64 0, .string ⟨#[]⟩, .slice none 0 0, .slice none 0 0] rfl) _ _ rfl rfl Tryz.underlying46 rfl (by kernel_rfl)) rfl ?_
    exact err_none HNO.out (HB10.out.trans (below_of_grown (setN_grown [.string ⟨#[]⟩, .int .i64 0, .int .i64 0, .int .i64 0, .string ⟨#[]⟩, .slice none 0 0, .slice none 0 0] 0 (grown_refl _ (some w.heap.size))) (Nat.le_refl _) HB10.out.size))
  have hse : ¬ (s.toList = []) := fun h => hemp (by
    rw [Lib.toList_data] at h
    exact bl_inj (by unfold bl; rw [h]; rfl))
  have hsf : (s.toList == []) = false := by simpa using hse
  have HYES := hide (show readE s = some (Event.mk x v k) from by
    obtain ⟨h1, h2⟩ := Event.write_eq HTS.out hemp
    exact readE_yes w h1 h2)
  clear hemp
  go_wp2
  refine bodyPost_ret (ret_row_tmp rfl _ _ w.heap.size 46 [.string x, .int .i64 v, .int .i64 k.sort, .int .i64 k.num, .string k.text, .slice B1 k.names.length d1, .slice B2 k.kids.length d2] (HZ10.out.setAll [.string x, .int .i64 v, .int .i64 k.sort, .int .i64 k.num, .string k.text, .slice B1 k.names.length d1, .slice B2 k.kids.length d2] rfl) _ _ rfl rfl Tryz.underlying46 rfl (by kernel_rfl)) rfl ?_
  have hgr := setN_grown [.string x, .int .i64 v, .int .i64 k.sort, .int .i64 k.num, .string k.text, .slice B1 k.names.length d1, .slice B2 k.kids.length d2] 0 (grown_refl w10 (some w.heap.size))
  have hno : w.heap.size ∉ fq := HN10.out.out (by omega)
  exact err_some HYES.out (HE10.out.grown hgr HN10.out.lt hno) ((HN10.out.grown hgr (fun q e => by injection e with e; subst e; exact hno)).mono (by omega)) (HB10.out.trans (below_of_grown hgr (Nat.le_refl _) HB10.out.size))
end Go.Proofs.YtnaecdoeldoipaaGreatDoor
