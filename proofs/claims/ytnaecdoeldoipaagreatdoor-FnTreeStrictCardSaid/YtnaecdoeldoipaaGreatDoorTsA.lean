/-
  The draws of the reference: a text that is bent. A good tree is known by its text. The reference's DrawTreeWrite. The walk of the comparison of trees: on two copies of one tree it says true. The draws of the reference: a text of a tree, one in three bent. Printed by gen/treelaw2.py. FnTreeStrict returns true for every input: every tree has just one text. No condition.
-/
import Derived.Test.YtnaecdoeldoipaaGreatDoorDrA
import Derived.Deep.RegionHeld3
import Derived.BigQuiet
import Derived.Test.YtnaecdoeldoipaaGreatDoorTrA
import Derived.Test.YtnaecdoeldoipaaGreatDoorDrB
import Derived.Test.YtnaecdoeldoipaaGreatDoorHTree
import Derived.Deep.CutRange
import Derived.Deep.DeepCutAuto
import Derived.Test.YtnaecdoeldoipaaGreatDoorTreeParts
import Derived.Deep.Cut
set_option linter.unusedVariables false
set_option linter.unusedSimpArgs false
namespace Go.Proofs.YtnaecdoeldoipaaGreatDoor
open Go.ChangeShapes Go.WideShapes Go.ChangeAt Go.RowKit

def BendOut (g : Nat) (L : List UInt8) (k N : Nat) (w : World) (e : Ending) (w' : World) : Prop := ∃ (t : ByteArray) (k' : Nat), e = .returned (.string t) ∧ t.size ≤ N ∧ k' ≤ k + 3 ∧ RdD w' g L k' ∧ w.grownBy w' (some g)
def LitOut (g : Nat) (L : List UInt8) (k : Nat) (l : List ByteArray) (w : World) (e : Ending) (w' : World) : Prop := ∃ x ∈ l, e = .returned (.string x) ∧ RdD w' g L (k + 1) ∧ w.grownBy w' (some g)
/-- one of some texts that are laid out just now -/
theorem lit_of {L : List UInt8} {k g : Nat} {W : World} (h : RdD W g L k) (hk : k ≤ 1000000000) (l : List ByteArray) (hl0 : 1 ≤ l.length) (hl : l.length ≤ 1000) :
    Calls Tryz.prog 49 #[.pointer (some ⟨g, 0, none⟩), .slice (some ⟨W.heap.size, 0, none⟩) l.length l.length] (W.alloc (.cells (l.map Value.string).toArray 9)) (LitOut g L k l W) := by
  have hA : Below W.heap.size W (W.alloc (.cells (l.map Value.string).toArray 9)) := (Below.refl _ _).alloc (Nat.le_refl _) _
  have hg := h.lt
  refine (of_any (h.below hA) hk l W.heap.size l.length hl0 hl (by omega) (by rw [World.size_alloc]; omega) (fun j hj => ?_)).mono ?_
  · rw [(Row.new W 9 (l.map Value.string)).cell j, List.getElem?_map, List.getElem?_eq_getElem hj]
    rfl
  · rintro e w' ⟨x, hx, rfl, hr, hgr⟩
    exact ⟨x, hx, rfl, hr, only_trans (grownBy_below hA (some g)) hgr⟩
set_option maxRecDepth 100000 in
set_option maxHeartbeats 2000000 in
theorem bend_any {L : List UInt8} {k g : Nat} {w : World} (h : RdD w g L k) (hk : k ≤ 100000000) (s : ByteArray) (hs : s.size ≤ 1000000) :
    Calls Tryz.prog 51 #[.pointer (some ⟨g, 0, none⟩), .string s] w (BendOut g L k (s.size + 2) w) := by
  have HR := hide h
  clear h
  by_cases h0 : s.size = 0
  · have h0i : (s.size : Int) = 0 := by omega
    have HC := hide (lit_of (W := w) HR.out (by omega) ([⟨#[32]⟩, ⟨#[48]⟩, ⟨#[123, 125]⟩] : List ByteArray) (by decide) (by decide))
    have HS := hide h0
    clear h0
    go_enter Tryz.func51, Tryz.ntmps51
    go_wp2_with fail
    refine HC.out.mono ?_
    rintro e w2 ⟨x, hx, rfl, hr2, hg2⟩
    have hx2 : x.size ≤ 2 := (by
    simp only [List.mem_cons, List.not_mem_nil, or_false] at hx
    rcases hx with rfl | rfl | rfl <;> decide)
    have HX := hide hx2
    clear hx hx2
    go_wp2
    go_ret
    exact ⟨x, k + 1, rfl, by have := HX.out; omega, by omega, hr2, hg2⟩
  have h0i : ¬ ((s.size : Int) = 0) := by omega
  have HP := hide (pick_any HR.out (n := s.size) (by omega) (by omega) (by omega))
  go_enter Tryz.func51, Tryz.ntmps51
  go_wp2_with fail
  refine HP.out.mono ?_
  rintro e w2 ⟨i, rfl, hi, hr2, hg2⟩
  have HP2 := hide (pick_any hr2 (n := 6) (by omega) (by omega) (by omega))
  have HG2 := hide hg2
  clear hr2 hg2 HP
  go_wp2_with fail
  refine HP2.out.mono ?_
  rintro e w3 ⟨v, rfl, hv, hr3, hg3⟩
  have HR3 := hide hr3
  have HG3 := hide (only_trans HG2.out hg3)
  clear hr3 hg3 HP2 HG2 HR
  have hi1 : (0 : Int) ≤ (i : Int) := by omega
  have hi2 : (i : Int) ≤ (s.size : Int) := by omega
  have hi3 : (i : Int) + 1 ≤ (s.size : Int) := by omega
  have hi4 : (0 : Int) ≤ (i : Int) + 1 := by omega
  have hw1 : IntKind.i64.wrap ((i : Int) + 1) = (i : Int) + 1 := wrapI _ (by omega) (by omega)
  have HE1 := hide (show (s.extract 0 i).size = i by rw [ByteArray.size_extract]; omega)
  have HE2 := hide (show (s.extract i s.size).size = s.size - i by rw [ByteArray.size_extract]; omega)
  have HE3 := hide (show (s.extract (i + 1) s.size).size = s.size - (i + 1) by rw [ByteArray.size_extract]; omega)
  have hv6 : v = 0 ∨ v = 1 ∨ v = 2 ∨ v = 3 ∨ v = 4 ∨ v = 5 := by omega
  clear hv
  rcases hv6 with rfl | rfl | rfl | rfl | rfl | rfl
  · go_wp2
    go_ret
    exact ⟨_, k + 2, rfl, by have := HE1.out; omega, by omega, HR3.out, HG3.out⟩
  · go_wp2
    go_quiet (fail)
    go_wp2
    go_ret
    exact ⟨_, k + 2, rfl, by rw [ByteArray.size_append]; have := HE1.out; have := HE3.out; omega, by omega, HR3.out.drewN _, only_drewN HG3.out _⟩
  · have HC := hide (lit_of (W := w3.drew) (HR3.out.drewN 1) (by omega) ([⟨#[32]⟩, ⟨#[44]⟩, ⟨#[48]⟩, ⟨#[45]⟩, ⟨#[34]⟩, ⟨#[126]⟩, ⟨#[63]⟩, ⟨#[93]⟩, ⟨#[125]⟩, ⟨#[97]⟩] : List ByteArray) (by decide) (by decide))
    go_wp2_with fail
    go_region_held3 (fun W => W.os = w3.os) (first | rfl | exact hos7)
      (first | (go_at_call 49; refine HC.out.mono ?_; rintro e w7 ⟨x, hx, rfl, hr7, hg7⟩; have hos7 : w7.os = w3.os := hg7.os; have hx1 : x.size ≤ 1 := (by    simp only [List.mem_cons, List.not_mem_nil, or_false] at hx; rcases hx with rfl | rfl | rfl | rfl | rfl | rfl | rfl | rfl | rfl | rfl <;> decide); have HX := hide hx1; have HR7 := hide hr7; have HG7 := hide (only_trans (only_drewN HG3.out 1) hg7); have n1 : ¬ (9223372036854775807 < min i s.size + x.size) := (by omega); have n2 : ¬ (9223372036854775807 < min i s.size + x.size + (s.size - i)) := (by omega); clear hx hr7 hg7 hx1))
    all_goals
      go_wp2
      go_ret
      exact ⟨_, k + 3, rfl, by rw [ByteArray.size_append, ByteArray.size_append]; have := HE1.out; have := HE2.out; have := HE3.out; have := HX.out; omega, Nat.le_refl _, HR7.out, HG7.out⟩
  · have HC := hide (lit_of (W := w3.drew) (HR3.out.drewN 1) (by omega) ([⟨#[32]⟩, ⟨#[44]⟩, ⟨#[48]⟩, ⟨#[45]⟩, ⟨#[34]⟩, ⟨#[126]⟩, ⟨#[63]⟩, ⟨#[91]⟩, ⟨#[123]⟩, ⟨#[97]⟩, ⟨#[57]⟩] : List ByteArray) (by decide) (by decide))
    go_wp2_with fail
    go_region_held3 (fun W => W.os = w3.os) (first | rfl | exact hos7)
      (first | (go_at_call 49; refine HC.out.mono ?_; rintro e w7 ⟨x, hx, rfl, hr7, hg7⟩; have hos7 : w7.os = w3.os := hg7.os; have hx1 : x.size ≤ 1 := (by    simp only [List.mem_cons, List.not_mem_nil, or_false] at hx; rcases hx with rfl | rfl | rfl | rfl | rfl | rfl | rfl | rfl | rfl | rfl | rfl <;> decide); have HX := hide hx1; have HR7 := hide hr7; have HG7 := hide (only_trans (only_drewN HG3.out 1) hg7); have n1 : ¬ (9223372036854775807 < min i s.size + x.size) := (by omega); have n2 : ¬ (9223372036854775807 < min i s.size + x.size + (s.size - (i + 1))) := (by omega); clear hx hr7 hg7 hx1))
    all_goals
      go_wp2
      go_ret
      exact ⟨_, k + 3, rfl, by rw [ByteArray.size_append, ByteArray.size_append]; have := HE1.out; have := HE2.out; have := HE3.out; have := HX.out; omega, Nat.le_refl _, HR7.out, HG7.out⟩
  · have HC := hide (lit_of (W := w3) HR3.out (by omega) ([⟨#[32]⟩, ⟨#[44]⟩, ⟨#[48]⟩, ⟨#[125]⟩, ⟨#[10]⟩] : List ByteArray) (by decide) (by decide))
    go_wp2_with fail
    refine HC.out.mono ?_
    rintro e w7 ⟨x, hx, rfl, hr7, hg7⟩
    have hx1 : x.size ≤ 1 := (by
    simp only [List.mem_cons, List.not_mem_nil, or_false] at hx
    rcases hx with rfl | rfl | rfl | rfl | rfl <;> decide)
    have HX := hide hx1
    have HR7 := hide hr7
    have HG7 := hide (only_trans HG3.out hg7)
    have n1 : ¬ (9223372036854775807 < s.size + x.size) := by omega
    clear hx hr7 hg7 hx1
    go_wp2
    go_ret
    exact ⟨_, k + 3, rfl, by rw [ByteArray.size_append]; have := HX.out; omega, Nat.le_refl _, HR7.out, HG7.out⟩
  · have HC := hide (lit_of (W := w3) HR3.out (by omega) ([⟨#[32]⟩, ⟨#[43]⟩, ⟨#[48]⟩] : List ByteArray) (by decide) (by decide))
    go_wp2_with fail
    refine HC.out.mono ?_
    rintro e w7 ⟨x, hx, rfl, hr7, hg7⟩
    have hx1 : x.size ≤ 1 := (by
    simp only [List.mem_cons, List.not_mem_nil, or_false] at hx
    rcases hx with rfl | rfl | rfl <;> decide)
    have HX := hide hx1
    have HR7 := hide hr7
    have HG7 := hide (only_trans HG3.out hg7)
    have n1 : ¬ (9223372036854775807 < x.size + s.size) := by omega
    clear hx hr7 hg7 hx1
    go_wp2
    go_ret
    exact ⟨_, k + 3, rfl, by rw [ByteArray.size_append]; have := HX.out; omega, Nat.le_refl _, HR7.out, HG7.out⟩
end Go.Proofs.YtnaecdoeldoipaaGreatDoor
set_option linter.unusedVariables false
set_option linter.unusedSimpArgs false
namespace Go.Proofs.YtnaecdoeldoipaaGreatDoor
open Go.ChangeShapes Go.WideShapes Go.ChangeAt Go.RowKit

theorem Calls.some_endV {P : Program} {f : FuncId} {args : Array Value} {w : World} {R : Ending → World → Prop} (h : Calls P f args w R) : ∃ e w', R e w' := by
  obtain ⟨e, w', _, hr, _⟩ := h []
  exact ⟨e, w', hr⟩
/-- the reader's contract says so, in any world -/
theorem Tree.wr_injV (w : World) {a b : Tree} (ha : a.ok) (hb : b.ok) (h : a.wr = b.wr) : a = b := by
  have hs := tok_size ha
  have hR : RdK (w.alloc (.cells [.string a.wr, .int .i64 0, .bool false].toArray 75)) w.heap.size a.wr 0 (bl a.wr) false :=
    ⟨0, Row.new w _ _, by omega, by omega, fun _ => by omega, rfl⟩
  obtain ⟨e, w', k, us, fq, l', b', _, _, _, _, _, _, ht, _⟩ := Calls.some_endV (treeRdS_any 6 a.wr (bl a.wr) false w.heap.size 1 _ (by omega) (by omega) hR)
  have h1 := ht a [] ha.1 Ender.nil rfl (by rw [List.append_nil])
  have h2 := ht b [] hb.1 Ender.nil rfl (by rw [h, List.append_nil])
  exact h1.1.symm.trans h2.1
/-- what is written is read back -/
theorem treeRead_wr (w : World) {k : Tree} (h : k.ok) : treeRead k.wr = k ∧ treeReadB k.wr = true := by
  have h3 : readT k.wr = some k := by
    cases hr : readT k.wr with
    | none => exact absurd rfl (readT_none hr k h)
    | some q =>
      obtain ⟨a1, a2⟩ := readT_some hr
      rw [Tree.wr_injV w a1 h a2]
  unfold treeRead treeReadB
  rw [h3]
  exact ⟨rfl, rfl⟩
theorem treeRead_bulkV (w : World) (s : ByteArray) : (treeRead s).bulk ≤ 50000 := by
  unfold treeRead
  cases h : readT s with
  | none => decide
  | some k =>
    obtain ⟨h1, h2⟩ := readT_some h
    have hs : s.size ≤ 10000 := by have := tok_size h1; rw [h2] at this; omega
    have hR : RdK (w.alloc (.cells [.string s, .int .i64 0, .bool false].toArray 75)) w.heap.size s 0 (bl s) false :=
      ⟨0, Row.new w _ _, hs, by omega, fun _ => by omega, rfl⟩
    obtain ⟨e, w', k', us, fq, l', b', _, _, _, _, _, hp, ht, _⟩ := Calls.some_endV (treeRdS_any 6 s (bl s) false w.heap.size 1 _ (by omega) (by omega) hR)
    have h3 := (ht k [] h1.1 Ender.nil rfl (by rw [h2, List.append_nil])).1
    rw [h3] at hp
    have := hp.2.1
    rw [bl_len] at this
    show k.bulk ≤ 50000
    omega
end Go.Proofs.YtnaecdoeldoipaaGreatDoor
set_option linter.unusedVariables false
set_option linter.unusedSimpArgs false
namespace Go.Proofs.YtnaecdoeldoipaaGreatDoor
open Go.ChangeShapes Go.WideShapes Go.ChangeAt Go.RowKit

def TreeDrawn (w : World) (e : Ending) (w' : World) : Prop := ∃ (us : List Value) (t : Tree) (fq : List Nat), e = .returned (.agg us.toArray) ∧ OwC w' t.cells us fq ∧ Fr fq w.heap.size w'.heap.size ∧ t.bulk ≤ 1000000 ∧ Below w.heap.size w w'
set_option maxRecDepth 100000 in
set_option maxHeartbeats 1000000 in
theorem drawTreeWrite_any (l : List UInt8) (A : Option Addr) (n c : Nat) (fp : List Nat) (w : World) (ho : Ow w (.s 1 l.length (l.flatMap byteC)) (.slice A n c) fp) (hf : Lt fp w.heap.size) (hsz : l.length ≤ 1048576) :
    Calls Tryz.prog 9 #[.slice A n c] w (TreeDrawn w) := by
  have HO := hide ho
  clear ho
  go_enter Tryz.func9, Tryz.ntmps9
  go_upto_region 1 with fail
  generalize hw1 : w.alloc _ = w1
  have hb1 : Below w.heap.size w w1 := by rw [← hw1]; exact (Below.refl _ _).alloc (Nat.le_refl _) _
  have HZ := hide (show Row w1 w.heap.size 26 [.int .i64 0, .int .i64 0, .string .empty, .slice none 0 0, .slice none 0 0] from by rw [← hw1]; exact Row.new w _ _)
  have hs1 : w.heap.size < w1.heap.size := HZ.out.lt
  have HP := hide (open_any l A n c fp w1 (HO.out.below hb1 hf) (hf.up hb1) hsz)
  have HB1 := hide hb1
  clear hw1 hb1 HO
  go_wp2_with fail
  refine HP.out.mono ?_
  rintro e w2 ⟨L, rfl, hr, hb2⟩
  have HQ := hide (l5Any_any hr (by omega))
  have HB2 := hide (HB1.out.trans (hb2.mono HB1.out.size))
  have HZ2 := hide (HZ.out.below hb2 HZ.out.lt)
  have hs2 : w.heap.size < w2.heap.size := HZ2.out.lt
  clear hr hb2 HP HB1 HZ
  go_wp2_with fail
  refine HQ.out.mono ?_
  rintro e w3 ⟨t, us, fq, k', rfl, ho3, hn3, hl3, hk3, hr3, hg3⟩
  have HO3 := hide ho3
  obtain ⟨B1, d1, B2, d2, g1, g2, rfl, x0, x1, x2, x3, x4, efq⟩ := ho3.oTree
  have HB3 := hide (HB2.out.trans (below_of_grown hg3 (Nat.le_of_lt hs1) HB2.out.size))
  have HZ3 := hide (HZ2.out.grown hg3 (fun e => by injection e with e; omega))
  have HN3 := hide hn3
  clear ho3 hn3 hr3 hg3 HQ HB2 HZ2 x3 x4 efq
  have z0 := HZ3.out.cell 0
  have q0 := HZ3.out.frozen 0
  have z1 := HZ3.out.cell 1
  have q1 := HZ3.out.frozen 1
  have z2 := HZ3.out.cell 2
  have q2 := HZ3.out.frozen 2
  have z3 := HZ3.out.cell 3
  have q3 := HZ3.out.frozen 3
  have z4 := HZ3.out.cell 4
  have q4 := HZ3.out.frozen 4
  have zl := HZ3.out.lt
  go_wp2
  refine bodyPost_ret (ret_row rfl _ _ w.heap.size 26 [.int .i64 t.sort, .int .i64 t.num, .string t.text, .slice B1 t.names.length d1, .slice B2 t.kids.length d2] (HZ3.out.setAll [.int .i64 t.sort, .int .i64 t.num, .string t.text, .slice B1 t.names.length d1, .slice B2 t.kids.length d2] rfl) _ rfl Tryz.underlying26 rfl (by kernel_rfl)) rfl ?_
  have hgr := setN_grown [.int .i64 t.sort, .int .i64 t.num, .string t.text, .slice B1 t.names.length d1, .slice B2 t.kids.length d2] 0 (grown_refl w3 (some w.heap.size))
  have hno : w.heap.size ∉ fq := fun hm => by have := (HN3.out _ hm).1; omega
  exact ⟨_, t, fq, rfl, HO3.out.grown hgr HN3.out.lt hno, HN3.out.mono (by omega) hgr.size, hl3, HB3.out.trans (below_of_grown hgr (Nat.le_refl _) HB3.out.size)⟩
end Go.Proofs.YtnaecdoeldoipaaGreatDoor
set_option linter.unusedVariables false
set_option linter.unusedSimpArgs false
namespace Go.Proofs.YtnaecdoeldoipaaGreatDoor
open Go.ChangeShapes Go.WideShapes Go.ChangeAt Go.RowKit

def TtTree (x : Tree) : Prop := ∀ (us vs : List Value) (fp fq : List Nat) (w : World), OwC w x.cells us fp → OwC w x.cells vs fq → Lt fp w.heap.size → Lt fq w.heap.size →
  Calls Tryz.prog 16 #[.agg us.toArray, .agg vs.toArray] w fun e w' => e = .returned (.bool true) ∧ Below w.heap.size w w'
set_option maxRecDepth 100000 in
set_option maxHeartbeats 1000000 in
theorem ttTree_of (x : Tree) (ih : ∀ y ∈ x.kids, TtTree y) : TtTree x := by
  intro us vs fp fq w ho ho' hf hf'
  obtain ⟨A1, c1, A2, c2, f1, f2, rfl, w0, w1, w2, o1, o2, rfl⟩ := ho.oTree
  obtain ⟨bA1, bc1, bA2, bc2, bf1, bf2, rfl, bw0, bw1, bw2, bo1, bo2, rfl⟩ := ho'.oTree
  have l1 := hf.left
  have l2 := hf.right
  have k1 := hf'.left
  have k2 := hf'.right
  have HI := hide ih
  obtain ⟨-, hn1, hm1⟩ := o1.nlen
  obtain ⟨-, hn2, hm2⟩ := o2.nlen
  unfold maxLen at hm1 hm2
  have O1 := hide o1
  have O2 := hide o2
  have P1 := hide bo1
  have P2 := hide bo2
  clear ho ho' ih o1 o2 bo1 bo2 w0 w1 w2 bw0 bw1 bw2
  go_enter Tryz.func16, Tryz.ntmps16
  go_upto_region 1 with fail
  generalize hw1 : World.alloc _ _ = w1
  have hb0 : Below w.heap.size w w1 := by rw [← hw1]; exact ((Below.refl _ _).alloc (Nat.le_refl _) _).alloc (by simp) _
  have R0 : Row w1 w.heap.size 26 [.int .i64 x.sort, .int .i64 x.num, .string x.text, .slice A1 x.names.length c1, .slice A2 x.kids.length c2] := by rw [← hw1]; exact (Row.new w _ _).alloc _
  have S0 : Row w1 (w.heap.size + 1) 26 [.int .i64 x.sort, .int .i64 x.num, .string x.text, .slice bA1 x.names.length bc1, .slice bA2 x.kids.length bc2] := by
    rw [← hw1]
    have h := Row.new (w.alloc (.cells #[.int .i64 x.sort, .int .i64 x.num, .string x.text, .slice A1 x.names.length c1, .slice A2 x.kids.length c2] 26)) 26 [.int .i64 x.sort, .int .i64 x.num, .string x.text, .slice bA1 x.names.length bc1, .slice bA2 x.kids.length bc2]
    simpa using h
  have O1 := hide (O1.out.below hb0 l1)
  have O2 := hide (O2.out.below hb0 l2)
  have P1 := hide (P1.out.below hb0 k1)
  have P2 := hide (P2.out.below hb0 k2)
  have l1 := hide (l1.up hb0)
  have l2 := hide (l2.up hb0)
  have k1 := hide (k1.up hb0)
  have k2 := hide (k2.up hb0)
  have c0 := R0.cell 0
  have c1_ := R0.cell 1
  have c2_ := R0.cell 2
  have c3 := R0.cell 3
  have c4 := R0.cell 4
  have d0 := S0.cell 0
  have d1 := S0.cell 1
  have d2 := S0.cell 2
  have d3 := S0.cell 3
  have d4 := S0.cell 4
  have lr0 := R0.lt
  have ls0 := S0.lt
  have HR0 := hide R0
  have HS0 := hide S0
  have HB0 := hide hb0
  clear hw1 hb0 R0 S0
  go_wp2
  clear c0 c1_ c2_ c3 c4 d0 d1 d2 d3 d4
  go_loopw [5] (fun i wr => (∃ k : Nat, k ≤ x.names.length ∧ i = .int .i64 (k : Int)) ∧ Below w1.heap.size w1 wr) (fun i _ => x.names.length - (intOf i).toNat)
  case atStart => exact ⟨⟨0, Nat.zero_le _, rfl⟩, Below.refl _ _⟩
  case round =>
    obtain ⟨⟨k, hk, rfl⟩, hb⟩ := hrel
    have c3 := (HR0.out.below hb lr0).cell 3
    have d3 := (HS0.out.below hb ls0).cell 3
    have hsz := hb.size
    by_cases hlt : k < x.names.length
    · obtain ⟨g, off, rfl, _, hcell, hs⟩ := strs_at (O1.out.below hb l1.out) hlt
      obtain ⟨g', off', rfl, _, hcell', _⟩ := strs_at (P1.out.below hb k1.out) hlt
      have HB := hide hb
      clear hb
      generalize x.names[k] = s at *
      go_wp2
      go_quiet (fail)
      go_wp2
      go_roundw
      case rel => exact ⟨⟨k + 1, by omega, by go_num⟩, below_drewN HB.out _⟩
      case measure => simp [intOf]; omega
    · obtain rfl : k = x.names.length := by omega
      have HB := hide hb
      clear hb
      go_wp2
      go_loopw [6] (fun i wx => (∃ k : Nat, k ≤ x.kids.length ∧ i = .int .i64 (k : Int)) ∧ Below w1.heap.size w1 wx) (fun i _ => x.kids.length - (intOf i).toNat)
      case atStart => exact ⟨⟨0, Nat.zero_le _, rfl⟩, HB.out⟩
      case round =>
        obtain ⟨⟨k, hk2, rfl⟩, hb⟩ := hrel
        have c4 := (HR0.out.below hb lr0).cell 4
        have d4 := (HS0.out.below hb ls0).cell 4
        have hsz2 := hb.size
        obtain ⟨wz, rfl⟩ : ∃ W, W = wr := ⟨_, rfl⟩
        have HBx := hide hb
        by_cases hlt2 : k < x.kids.length
        · obtain ⟨g, off, vs, fi, rfl, hg, hfi, hvl, hcs, hov⟩ := (O2.out.below hb l2.out).elem Tree.cells_len hlt2
          obtain ⟨g', off', vs', fi', rfl, hg', hfi', hvl', hcs', hov'⟩ := (P2.out.below hb k2.out).elem Tree.cells_len hlt2
          have HO := hide hov
          have HO' := hide hov'
          obtain ⟨E1, e1, E2, e2, g1, g2, rfl, y0, y1, y2, z1, z2, rfl⟩ := hov.oTree
          obtain ⟨F1, r1, F2, r2, h1, h2, rfl, by0, by1, by2, bz1, bz2, rfl⟩ := hov'.oTree
          have p0 := hcs 0 _ rfl
          have q0 := hcs' 0 _ rfl
          have p1 := hcs 1 _ rfl
          have q1 := hcs' 1 _ rfl
          have p2 := hcs 2 _ rfl
          have q2 := hcs' 2 _ rfl
          have p3 := hcs 3 _ rfl
          have q3 := hcs' 3 _ rfl
          have p4 := hcs 4 _ rfl
          have q4 := hcs' 4 _ rfl
          simp only [Nat.add_zero] at p0 q0
          have HC := hide (HI.out _ (List.getElem_mem hlt2))
          have HL := hide ((l2.out.sub hfi).mono hb.size)
          have HK := hide ((k2.out.sub hfi').mono hb.size)
          clear hcs hcs' hov hov' hb hfi hfi' z1 z2 bz1 bz2 y0 y1 y2 by0 by1 by2
          generalize x.kids[k] = y at *
          go_wp2_with fail
          go_still_tail 10, (by kernel_rfl)
          change wpList _ _ _ _ _ wz.drew
          go_wp2_with fail
          refine (HC.out _ _ _ _ _ (HO.out.drewN 1) (HO'.out.drewN 1) HL.out HK.out).mono ?_
          rintro e w3 ⟨rfl, hb1⟩
          have hb2 : Below w1.heap.size w1 w3 := (below_drewN HBx.out 1).trans (hb1.mono hsz2)
          clear hb1
          go_wp2
          go_roundw
          case rel => exact ⟨⟨k + 1, by omega, by go_num⟩, hb2⟩
          case measure => simp [intOf]; omega
        · obtain rfl : k = x.kids.length := by omega
          clear hb
          go_wp2
          go_ret
          exact ⟨rfl, HB0.out.trans (HBx.out.mono HB0.out.size)⟩
theorem ttTree_any (x : Tree) : TtTree x := Tree.ind (fun k ih => ttTree_of k ih) x
end Go.Proofs.YtnaecdoeldoipaaGreatDoor
set_option linter.unusedVariables false
set_option linter.unusedSimpArgs false
namespace Go.Proofs.YtnaecdoeldoipaaGreatDoor
open Go.ChangeShapes Go.WideShapes Go.ChangeAt Go.RowKit

theorem twrite_size (t : Tree) : t.write.size ≤ 9600 := by
  unfold Tree.write
  by_cases h : t.ok
  · rw [if_pos (tb_true h)]
    exact tok_size h
  · rw [if_neg (by rw [tb_false h]; decide)]
    decide
def TextDrawnT (N : Nat) (w : World) (e : Ending) (w' : World) : Prop := ∃ t : ByteArray, e = .returned (.string t) ∧ t.size ≤ N ∧ Below w.heap.size w w'
set_option maxRecDepth 100000 in
set_option maxHeartbeats 1000000 in
theorem drawTreeRead_any (l : List UInt8) (A : Option Addr) (n c : Nat) (fp : List Nat) (w : World) (ho : Ow w (.s 1 l.length (l.flatMap byteC)) (.slice A n c) fp) (hf : Lt fp w.heap.size) (hsz : l.length ≤ 1048576) :
    Calls Tryz.prog 17 #[.slice A n c] w (TextDrawnT 20000 w) := by
  have HP := hide (open_any l A n c fp w ho hf hsz)
  clear ho
  go_enter Tryz.func17, Tryz.ntmps17
  go_wp2_with fail
  refine HP.out.mono ?_
  rintro e w1 ⟨L, rfl, hr1, hb1⟩
  have HP1 := hide (pick_any hr1 (n := 30) (by omega) (by omega) (by omega))
  have HB1 := hide hb1
  clear hr1 hb1 HP
  go_wp2_with fail
  refine HP1.out.mono ?_
  rintro e w2 ⟨v, rfl, hv, hr2, hg2⟩
  have HR2 := hide hr2
  have HB2 := hide (HB1.out.trans (below_of_grown hg2 (Nat.le_refl _) HB1.out.size))
  clear hr2 hg2 HP1 HB1
  by_cases h0 : v = 0
  · subst h0
    have HC := hide (lit_of HR2.out (by omega) ([⟨#[48, 49]⟩, ⟨#[45, 48]⟩, ⟨#[49, 48, 48, 48, 48, 48, 48, 48, 48, 48]⟩, ⟨#[45, 57, 57, 57, 57, 57, 57, 57, 57, 57]⟩, ⟨#[123, 98, 58, 49, 44, 97, 58, 50, 125]⟩, ⟨#[123, 97, 58, 49, 44, 97, 58, 50, 125]⟩, ⟨#[91, 49, 44, 93]⟩, ⟨#[91, 44, 49, 93]⟩, ⟨#[123, 97, 58, 125]⟩, ⟨#[63, 63, 126]⟩, ⟨#[63, 63, 63, 63, 63, 63, 49]⟩, ⟨#[63, 63, 63, 63, 63, 49]⟩, ⟨#[34, 97]⟩, ⟨#[34, 92, 34]⟩, ⟨#[121, 101, 115, 115]⟩, ⟨#[110]⟩, ⟨#[123, 125]⟩, ⟨#[91, 93]⟩, ⟨#[]⟩, ⟨#[91, 49, 32, 44, 50, 93]⟩]) (by decide) (by decide))
    go_wp2_with fail
    refine HC.out.mono ?_
    rintro e w4 ⟨x, hx, rfl, hr4, hg4⟩
    have hx1 : x.size ≤ 20 := by
      simp only [List.mem_cons, List.not_mem_nil, or_false] at hx
      rcases hx with rfl | rfl | rfl | rfl | rfl | rfl | rfl | rfl | rfl | rfl | rfl | rfl | rfl | rfl | rfl | rfl | rfl | rfl | rfl | rfl
      all_goals decide
    have HX := hide hx1
    clear hx hx1
    go_wp2
    go_ret
    exact ⟨x, rfl, by have := HX.out; omega, HB2.out.trans (below_of_grown hg4 (Nat.le_refl _) HB2.out.size)⟩
  have h0i : ¬ ((v : Int) = 0) := by omega
  clear h0
  by_cases h1 : v = 1
  · subst h1
    have HP3 := hide (pick_any HR2.out (n := 3) (by omega) (by omega) (by omega))
    go_wp2_with fail
    refine HP3.out.mono ?_
    rintro e w3 ⟨p, rfl, hp, hr3, hg3⟩
    have HB3 := hide (HB2.out.trans (below_of_grown hg3 (Nat.le_refl _) HB2.out.size))
    have HM := hide (show Calls Tryz.prog 50 #[.string ⟨#[91]⟩, .int .i64 (5000 + (p : Int))] w3 fun e w' => ∃ o : ByteArray, e = .returned (.string o) ∧ o.size = 5000 + p ∧ w' = w3 from by
      have h := many_any ⟨#[91]⟩ (5000 + p) w3 (by decide) (by omega)
      rw [show ((5000 + p : Nat) : Int) = 5000 + (p : Int) by omega] at h
      exact h)
    have HM2 := hide (many_any ⟨#[93]⟩ 5000 w3 (by decide) (by omega))
    have e1 : (ByteArray.mk #[91]).size = 1 := rfl
    clear hr3 hg3 HP3 HR2 HB2
    go_wp2_with fail
    refine HM.out.mono ?_
    rintro e w4 ⟨o, rfl, ho, hw4⟩
    rw [hw4]
    have s1 : ¬ (9223372036854775807 < 1 + o.size) := by omega
    clear hw4 w4 HM
    go_wp2_with fail
    refine HM2.out.mono ?_
    rintro e w4 ⟨o2, rfl, ho2, hw4⟩
    rw [hw4]
    have s2 : ¬ (9223372036854775807 < 1 + o.size + o2.size) := by omega
    clear hw4 w4 HM2
    go_wp2
    go_ret
    exact ⟨_, rfl, by simp only [ByteArray.size_append, e1]; omega, HB3.out⟩
  have h1i : ¬ ((v : Int) = 1) := by omega
  clear h1
  have HD := hide (l5Any_any HR2.out (by omega))
  go_wp2_with fail
  refine HD.out.mono ?_
  rintro e w3 ⟨x, us, fq, k3, rfl, ho3, hn3, hx3, hk3, hr3, hg3⟩
  have HW := hide (specTreeWrite_any x us fq w3 ho3 hn3.lt (by omega))
  have HR3 := hide hr3
  have HB3 := hide (HB2.out.trans (below_of_grown hg3 (Nat.le_refl _) HB2.out.size))
  clear ho3 hn3 hr3 hg3 HD HR2 HB2
  go_wp2_with fail
  refine HW.out.mono ?_
  rintro e w4 ⟨rfl, hb4⟩
  have HS := hide (twrite_size x)
  obtain ⟨s, hs⟩ : ∃ s, s = x.write := ⟨_, rfl⟩
  rw [← hs] at HS ⊢
  have HP4 := hide (pick_any (HR3.out.below hb4) (n := 3) (by omega) (by omega) (by omega))
  have HB4 := hide (HB3.out.trans (hb4.mono HB3.out.size))
  clear hs hb4 HW HR3 HB3
  go_wp2_with fail
  refine HP4.out.mono ?_
  rintro e w5 ⟨q, rfl, hq, hr5, hg5⟩
  have HR5 := hide hr5
  have HB5 := hide (HB4.out.trans (below_of_grown hg5 (Nat.le_refl _) HB4.out.size))
  clear hr5 hg5 HP4 HB4
  by_cases hq0 : q = 0
  · subst hq0
    have HC := hide (bend_any HR5.out (by omega) s (by have := HS.out; omega))
    go_wp2_with fail
    refine HC.out.mono ?_
    rintro e w6 ⟨t, k6, rfl, ht, hk6, hr6, hg6⟩
    have HT := hide ht
    clear ht
    go_wp2
    go_ret
    exact ⟨t, rfl, by have := HT.out; have := HS.out; omega, HB5.out.trans (below_of_grown hg6 (Nat.le_refl _) HB5.out.size)⟩
  · have hqi : ¬ ((q : Int) = 0) := by omega
    go_wp2
    go_ret
    exact ⟨s, rfl, by have := HS.out; omega, HB5.out⟩
end Go.Proofs.YtnaecdoeldoipaaGreatDoor
set_option linter.unusedVariables false
set_option linter.unusedSimpArgs false
namespace Go.Proofs.YtnaecdoeldoipaaGreatDoor
open Go.ChangeShapes Go.WideShapes Go.ChangeAt Go.RowKit

set_option maxRecDepth 100000 in
set_option maxHeartbeats 4000000 in
theorem lawFnTreeStrict_any (w : World) (x0 : List UInt8) (A0 : Option Addr) (m0 c0 : Nat) (fp0 : List Nat) (ho0 : Ow w (.s 1 (x0).length ((x0).flatMap byteC)) (.slice A0 m0 c0) fp0) (hl0 : Lt fp0 w.heap.size) (ht : Lay w) (hw7 : 5 < w.heap.size) :
    Calls Tryz.prog 4 #[.slice A0 m0 c0] w fun e w' => e = .returned (.bool true) ∧ Below w.heap.size w w' := by
  obtain ⟨rfl, hc0, hm0⟩ := ho0.nlen
  have HO0 := hide ho0
  have HB := hide (Below.refl w.heap.size w)
  have HLY := hide ht
  clear ho0 ht
  by_cases hz0 : (x0.length : Int) ≤ 1048576
  rotate_left
  · have hz' : (1048576 : Int) < x0.length := by omega
    go_enter Tryz.func4, Tryz.ntmps4
    go_wp2
    go_ret
    exact ⟨rfl, HB.out⟩
  have HD := hide (drawTreeRead_any x0 A0 _ c0 fp0 w HO0.out hl0 (by omega))
  go_enter Tryz.func4, Tryz.ntmps4
  go_wp2_with fail
  refine HD.out.mono ?_
  rintro e w1 ⟨s, rfl, hss, hb1⟩
  have HB1 := hide hb1
  have HLY1 := hide (HLY.out.below hb1)
  have hw1 : 5 < w1.heap.size := Nat.lt_of_lt_of_le hw7 hb1.size
  clear hb1 HD HB HLY
  obtain ⟨t, ht⟩ : ∃ t, treeRead s = t := ⟨_, rfl⟩
  obtain ⟨told, htold⟩ : ∃ b, treeReadB s = b := ⟨_, rfl⟩
  have HT := hide ht
  have HTO := hide htold
  have hbk : t.bulk ≤ 50000 := by rw [← ht]; exact treeRead_bulkV w s
  have HC := hide (specTreeRead_any s w1 (by unfold maxLen; omega))
  unfold TreeReadRet at HC
  rw [ht, htold] at HC
  clear ht htold
  go_wp2_with fail
  refine HC.out.mono ?_
  rintro e w2 ⟨us2, fq2, rfl, ho2, hn2, hb2⟩
  have HB2 := hide (HB1.out.trans (hb2.mono HB1.out.size))
  have HLY2 := hide (HLY1.out.below hb2)
  have hw2 : 5 < w2.heap.size := Nat.lt_of_lt_of_le hw1 hb2.size
  have HO2 := hide ho2
  have HL2 := hide hn2.lt
  obtain ⟨B1, d1, B2, d2, g1, g2, rfl, y0, y1, y2, y3, y4, efq⟩ := ho2.oTree
  clear ho2 hn2 hb2 HC HB1 HLY1 hw1 y0 y1 y2 y3 y4 efq
  go_upto_region 5 with fail
  generalize hwA : World.alloc _ _ = w3
  have hbA : Below w2.heap.size w2 w3 := by rw [← hwA]; exact (Below.refl _ _).alloc (Nat.le_refl _) _
  have HXv3 := hide (show Row w3 w2.heap.size 26 [.int .i64 t.sort, .int .i64 t.num, .string t.text, .slice B1 t.names.length d1, .slice B2 t.kids.length d2] from by rw [← hwA]; exact Row.new w2 _ _)
  have HOv3 := hide (HO2.out.below hbA HL2.out)
  have HLv3 := hide ((HL2.out).up hbA)
  have HB3 := hide (HB2.out.trans (hbA.mono HB2.out.size))
  have HLY3 := hide (HLY2.out.below hbA)
  have hw3 : 5 < w3.heap.size := Nat.lt_of_lt_of_le hw2 hbA.size
  clear hwA hbA HB2 HLY2 hw2 
  have k0 := HXv3.out.cell 0
  have k1 := HXv3.out.cell 1
  have k2 := HXv3.out.cell 2
  have k3 := HXv3.out.cell 3
  have k4 := HXv3.out.cell 4
  have kl := HXv3.out.lt
  clear HO2 HL2
  have HC := hide (implTreeRead_any s w3 (by unfold maxLen; omega) HLY3.out hw3)
  unfold TreeReadRet at HC
  have ht := HT.out
  have htold := HTO.out
  rw [ht, htold] at HC
  clear ht htold
  go_wp2_with fail
  refine HC.out.mono ?_
  rintro e w4 ⟨us4, fq4, rfl, ho4, hn4, hb4⟩
  have HB4 := hide (HB3.out.trans (hb4.mono HB3.out.size))
  have HLY4 := hide (HLY3.out.below hb4)
  have hw4 : 5 < w4.heap.size := Nat.lt_of_lt_of_le hw3 hb4.size
  have HXv4 := hide (HXv3.out.below hb4 HXv3.out.lt)
  have HOv4 := hide (HOv3.out.below hb4 HLv3.out)
  have HLv4 := hide (HLv3.out.up hb4)
  have HO4 := hide ho4
  have HL4 := hide hn4.lt
  obtain ⟨C1, e1, C2, e2, g1, g2, rfl, y0, y1, y2, y3, y4, efq⟩ := ho4.oTree
  clear ho4 hn4 hb4 HC HB3 HLY3 hw3 HXv3 HOv3 HLv3 y0 y1 y2 y3 y4 efq
  clear k0 k1 k2 k3 k4 kl
  have k0 := HXv4.out.cell 0
  have k1 := HXv4.out.cell 1
  have k2 := HXv4.out.cell 2
  have k3 := HXv4.out.cell 3
  have k4 := HXv4.out.cell 4
  have kl := HXv4.out.lt
  go_upto_region 6 with fail
  generalize hwA : World.alloc _ _ = w5
  have hbA : Below w4.heap.size w4 w5 := by rw [← hwA]; exact (Below.refl _ _).alloc (Nat.le_refl _) _
  have HXu5 := hide (show Row w5 w4.heap.size 26 [.int .i64 t.sort, .int .i64 t.num, .string t.text, .slice C1 t.names.length e1, .slice C2 t.kids.length e2] from by rw [← hwA]; exact Row.new w4 _ _)
  have HOu5 := hide (HO4.out.below hbA HL4.out)
  have HLu5 := hide ((HL4.out).up hbA)
  have HB5 := hide (HB4.out.trans (hbA.mono HB4.out.size))
  have HLY5 := hide (HLY4.out.below hbA)
  have hw5 : 5 < w5.heap.size := Nat.lt_of_lt_of_le hw4 hbA.size
  have HXv5 := hide (HXv4.out.below hbA HXv4.out.lt)
  have HOv5 := hide (HOv4.out.below hbA HLv4.out)
  have HLv5 := hide (HLv4.out.up hbA)
  clear hwA hbA HB4 HLY4 hw4 HXv4 HOv4 HLv4
  clear k0 k1 k2 k3 k4 kl
  have k0 := HXv5.out.cell 0
  have k1 := HXv5.out.cell 1
  have k2 := HXv5.out.cell 2
  have k3 := HXv5.out.cell 3
  have k4 := HXv5.out.cell 4
  have kl := HXv5.out.lt
  have j0 := HXu5.out.cell 0
  have j1 := HXu5.out.cell 1
  have j2 := HXu5.out.cell 2
  have j3 := HXu5.out.cell 3
  have j4 := HXu5.out.cell 4
  have jl := HXu5.out.lt
  clear HO4 HL4
  have HC := hide (ttTree_any t _ _ fq4 fq2 w5 HOu5.out HOv5.out HLu5.out HLv5.out)
  go_wp2_with fail
  refine HC.out.mono ?_
  rintro e w6 ⟨rfl, hb6⟩
  have HB6 := hide (HB5.out.trans (hb6.mono HB5.out.size))
  have HLY6 := hide (HLY5.out.below hb6)
  have hw6 : 5 < w6.heap.size := Nat.lt_of_lt_of_le hw5 hb6.size
  have HXv6 := hide (HXv5.out.below hb6 HXv5.out.lt)
  have HOv6 := hide (HOv5.out.below hb6 HLv5.out)
  have HLv6 := hide (HLv5.out.up hb6)
  have HXu6 := hide (HXu5.out.below hb6 HXu5.out.lt)
  have HOu6 := hide (HOu5.out.below hb6 HLu5.out)
  have HLu6 := hide (HLu5.out.up hb6)
  clear hb6 HC HB5 HLY5 hw5 HXv5 HOv5 HLv5 HXu5 HOu5 HLu5
  clear k0 k1 k2 k3 k4 kl
  clear j0 j1 j2 j3 j4 jl
  have k0 := HXv6.out.cell 0
  have k1 := HXv6.out.cell 1
  have k2 := HXv6.out.cell 2
  have k3 := HXv6.out.cell 3
  have k4 := HXv6.out.cell 4
  have kl := HXv6.out.lt
  have j0 := HXu6.out.cell 0
  have j1 := HXu6.out.cell 1
  have j2 := HXu6.out.cell 2
  have j3 := HXu6.out.cell 3
  have j4 := HXu6.out.cell 4
  have jl := HXu6.out.lt
  rcases told with _ | _
  · have hs0 : t.sort = 0 := by
      have h1 := HTO.out
      rw [← HT.out]
      unfold treeReadB at h1
      unfold treeRead
      cases hr : readT s with
      | none => rfl
      | some k => rw [hr] at h1; cases h1
    rw [hs0] at j0
    clear hs0
    go_wp2
    go_ret
    exact ⟨rfl, HB6.out⟩
  have hk : t.ok ∧ t.wr = s := by
    have h1 := HTO.out
    unfold treeReadB at h1
    rw [← HT.out]
    unfold treeRead
    cases hr : readT s with
    | none => rw [hr] at h1; cases h1
    | some k => exact readT_some hr
  have HK := hide hk
  clear hk
  have HC := hide (implTreeOk_any t _ fq4 w6 HOu6.out HLu6.out (by omega))
  have hk := HK.out
  rw [tb_true hk.1] at HC
  clear hk
  go_wp2_with fail
  refine HC.out.mono ?_
  rintro e w7 ⟨rfl, hb7⟩
  have HB7 := hide (HB6.out.trans (hb7.mono HB6.out.size))
  have HLY7 := hide (HLY6.out.below hb7)
  have hw7 : 5 < w7.heap.size := Nat.lt_of_lt_of_le hw6 hb7.size
  have HXv7 := hide (HXv6.out.below hb7 HXv6.out.lt)
  have HOv7 := hide (HOv6.out.below hb7 HLv6.out)
  have HLv7 := hide (HLv6.out.up hb7)
  have HXu7 := hide (HXu6.out.below hb7 HXu6.out.lt)
  have HOu7 := hide (HOu6.out.below hb7 HLu6.out)
  have HLu7 := hide (HLu6.out.up hb7)
  clear hb7 HC HB6 HLY6 hw6 HXv6 HOv6 HLv6 HXu6 HOu6 HLu6
  clear k0 k1 k2 k3 k4 kl
  clear j0 j1 j2 j3 j4 jl
  have k0 := HXv7.out.cell 0
  have k1 := HXv7.out.cell 1
  have k2 := HXv7.out.cell 2
  have k3 := HXv7.out.cell 3
  have k4 := HXv7.out.cell 4
  have kl := HXv7.out.lt
  have j0 := HXu7.out.cell 0
  have j1 := HXu7.out.cell 1
  have j2 := HXu7.out.cell 2
  have j3 := HXu7.out.cell 3
  have j4 := HXu7.out.cell 4
  have jl := HXu7.out.lt
  have HC := hide (implTreeWrite_any t _ fq4 w7 HOu7.out HLu7.out (by omega) HLY7.out.tab)
  have hk := HK.out
  rw [Tree.write_yes hk.1, hk.2] at HC
  clear hk
  go_wp2_with fail
  refine HC.out.mono ?_
  rintro e w8 ⟨rfl, hb8⟩
  have HB8 := hide (HB7.out.trans (hb8.mono HB7.out.size))
  have HLY8 := hide (HLY7.out.below hb8)
  have hw8 : 5 < w8.heap.size := Nat.lt_of_lt_of_le hw7 hb8.size
  have HXv8 := hide (HXv7.out.below hb8 HXv7.out.lt)
  have HOv8 := hide (HOv7.out.below hb8 HLv7.out)
  have HLv8 := hide (HLv7.out.up hb8)
  have HXu8 := hide (HXu7.out.below hb8 HXu7.out.lt)
  have HOu8 := hide (HOu7.out.below hb8 HLu7.out)
  have HLu8 := hide (HLu7.out.up hb8)
  clear hb8 HC HB7 HLY7 hw7 HXv7 HOv7 HLv7 HXu7 HOu7 HLu7
  clear k0 k1 k2 k3 k4 kl
  clear j0 j1 j2 j3 j4 jl
  have k0 := HXv8.out.cell 0
  have k1 := HXv8.out.cell 1
  have k2 := HXv8.out.cell 2
  have k3 := HXv8.out.cell 3
  have k4 := HXv8.out.cell 4
  have kl := HXv8.out.lt
  have j0 := HXu8.out.cell 0
  have j1 := HXu8.out.cell 1
  have j2 := HXu8.out.cell 2
  have j3 := HXu8.out.cell 3
  have j4 := HXu8.out.cell 4
  have jl := HXu8.out.lt
  go_wp2
  go_ret
  exact ⟨rfl, HB8.out⟩
end Go.Proofs.YtnaecdoeldoipaaGreatDoor
