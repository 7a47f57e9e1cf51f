/-
  A good tree is known by its text. The reference's DrawTreeWrite. The walk of the comparison of trees: on two copies of one tree it says true. FnTreeTop returns true for every input: what is written is read back as the same tree. No condition.
-/
import Derived.Test.YtnaecdoeldoipaaGreatDoorTrA
import Derived.Test.YtnaecdoeldoipaaGreatDoorDrB
import Derived.Test.YtnaecdoeldoipaaGreatDoorHTree
import Derived.Deep.CutRange
import Derived.Deep.DeepCutAuto
import Derived.BigQuiet
import Derived.Test.YtnaecdoeldoipaaGreatDoorTreeParts
import Derived.Deep.RegionHeld3
import Derived.Deep.Cut
set_option linter.unusedVariables false
set_option linter.unusedSimpArgs false
namespace Go.Proofs.YtnaecdoeldoipaaGreatDoor
open Go.ChangeShapes Go.WideShapes Go.ChangeAt Go.RowKit

theorem Calls.some_endV {P : Program} {f : FuncId} {args : Array Value} {w : World} {R : Ending → World → Prop} (h : Calls P f args w R) : ∃ e w', R e w' := by
  obtain ⟨e, w', _, hr, _⟩ := h []
  exact ⟨e, w', hr⟩
/-- the reader's contract says so, in any world -/
theorem Tree.wr_injV (w : World) {a b : Tree} (ha : a.ok) (hb : b.ok) (h : a.wr = b.wr) : a = b := by
  have hs := tok_size ha
  have hR : RdK (w.alloc (.cells [.string a.wr, .int .i64 0, .bool false].toArray 75)) w.heap.size a.wr 0 (bl a.wr) false :=
    ⟨0, Row.new w _ _, by omega, by omega, fun _ => by omega, rfl⟩
  obtain ⟨e, w', k, us, fq, l', b', _, _, _, _, _, _, ht, _⟩ := Calls.some_endV (treeRdS_any 6 a.wr (bl a.wr) false w.heap.size 1 _ (by omega) (by omega) hR)
  have h1 := ht a [] ha.1 Ender.nil rfl (by rw [List.append_nil])
  have h2 := ht b [] hb.1 Ender.nil rfl (by rw [h, List.append_nil])
  exact h1.1.symm.trans h2.1
/-- what is written is read back -/
theorem treeRead_wr (w : World) {k : Tree} (h : k.ok) : treeRead k.wr = k ∧ treeReadB k.wr = true := by
  have h3 : readT k.wr = some k := by
    cases hr : readT k.wr with
    | none => exact absurd rfl (readT_none hr k h)
    | some q =>
      obtain ⟨a1, a2⟩ := readT_some hr
      rw [Tree.wr_injV w a1 h a2]
  unfold treeRead treeReadB
  rw [h3]
  exact ⟨rfl, rfl⟩
theorem treeRead_bulkV (w : World) (s : ByteArray) : (treeRead s).bulk ≤ 50000 := by
  unfold treeRead
  cases h : readT s with
  | none => decide
  | some k =>
    obtain ⟨h1, h2⟩ := readT_some h
    have hs : s.size ≤ 10000 := by have := tok_size h1; rw [h2] at this; omega
    have hR : RdK (w.alloc (.cells [.string s, .int .i64 0, .bool false].toArray 75)) w.heap.size s 0 (bl s) false :=
      ⟨0, Row.new w _ _, hs, by omega, fun _ => by omega, rfl⟩
    obtain ⟨e, w', k', us, fq, l', b', _, _, _, _, _, hp, ht, _⟩ := Calls.some_endV (treeRdS_any 6 s (bl s) false w.heap.size 1 _ (by omega) (by omega) hR)
    have h3 := (ht k [] h1.1 Ender.nil rfl (by rw [h2, List.append_nil])).1
    rw [h3] at hp
    have := hp.2.1
    rw [bl_len] at this
    show k.bulk ≤ 50000
    omega
end Go.Proofs.YtnaecdoeldoipaaGreatDoor
set_option linter.unusedVariables false
set_option linter.unusedSimpArgs false
namespace Go.Proofs.YtnaecdoeldoipaaGreatDoor
open Go.ChangeShapes Go.WideShapes Go.ChangeAt Go.RowKit

def TreeDrawn (w : World) (e : Ending) (w' : World) : Prop := ∃ (us : List Value) (t : Tree) (fq : List Nat), e = .returned (.agg us.toArray) ∧ OwC w' t.cells us fq ∧ Fr fq w.heap.size w'.heap.size ∧ t.bulk ≤ 1000000 ∧ Below w.heap.size w w'
set_option maxRecDepth 100000 in
set_option maxHeartbeats 1000000 in
theorem drawTreeWrite_any (l : List UInt8) (A : Option Addr) (n c : Nat) (fp : List Nat) (w : World) (ho : Ow w (.s 1 l.length (l.flatMap byteC)) (.slice A n c) fp) (hf : Lt fp w.heap.size) (hsz : l.length ≤ 1048576) :
    Calls Tryz.prog 9 #[.slice A n c] w (TreeDrawn w) := by
  have HO := hide ho
  clear ho
  go_enter Tryz.func9, Tryz.ntmps9
  go_upto_region 1 with fail
  generalize hw1 : w.alloc _ = w1
  have hb1 : Below w.heap.size w w1 := by rw [← hw1]; exact (Below.refl _ _).alloc (Nat.le_refl _) _
  have HZ := hide (show Row w1 w.heap.size 26 [.int .i64 0, .int .i64 0, .string .empty, .slice none 0 0, .slice none 0 0] from by rw [← hw1]; exact Row.new w _ _)
  have hs1 : w.heap.size < w1.heap.size := HZ.out.lt
  have HP := hide (open_any l A n c fp w1 (HO.out.below hb1 hf) (hf.up hb1) hsz)
  have HB1 := hide hb1
  clear hw1 hb1 HO
  go_wp2_with fail
  refine HP.out.mono ?_
  rintro e w2 ⟨L, rfl, hr, hb2⟩
  have HQ := hide (l5Any_any hr (by omega))
  have HB2 := hide (HB1.out.trans (hb2.mono HB1.out.size))
  have HZ2 := hide (HZ.out.below hb2 HZ.out.lt)
  have hs2 : w.heap.size < w2.heap.size := HZ2.out.lt
  clear hr hb2 HP HB1 HZ
  go_wp2_with fail
  refine HQ.out.mono ?_
  rintro e w3 ⟨t, us, fq, k', rfl, ho3, hn3, hl3, hk3, hr3, hg3⟩
  have HO3 := hide ho3
  obtain ⟨B1, d1, B2, d2, g1, g2, rfl, x0, x1, x2, x3, x4, efq⟩ := ho3.oTree
  have HB3 := hide (HB2.out.trans (below_of_grown hg3 (Nat.le_of_lt hs1) HB2.out.size))
  have HZ3 := hide (HZ2.out.grown hg3 (fun e => by injection e with e; omega))
  have HN3 := hide hn3
  clear ho3 hn3 hr3 hg3 HQ HB2 HZ2 x3 x4 efq
  have z0 := HZ3.out.cell 0
  have q0 := HZ3.out.frozen 0
  have z1 := HZ3.out.cell 1
  have q1 := HZ3.out.frozen 1
  have z2 := HZ3.out.cell 2
  have q2 := HZ3.out.frozen 2
  have z3 := HZ3.out.cell 3
  have q3 := HZ3.out.frozen 3
  have z4 := HZ3.out.cell 4
  have q4 := HZ3.out.frozen 4
  have zl := HZ3.out.lt
  go_wp2
  refine bodyPost_ret (ret_row rfl _ _ w.heap.size 26 [.int .i64 t.sort, .int .i64 t.num, .string t.text, .slice B1 t.names.length d1, .slice B2 t.kids.length d2] (HZ3.out.setAll [.int .i64 t.sort, .int .i64 t.num, .string t.text, .slice B1 t.names.length d1, .slice B2 t.kids.length d2] rfl) _ rfl Tryz.underlying26 rfl (by kernel_rfl)) rfl ?_
  have hgr := setN_grown [.int .i64 t.sort, .int .i64 t.num, .string t.text, .slice B1 t.names.length d1, .slice B2 t.kids.length d2] 0 (grown_refl w3 (some w.heap.size))
  have hno : w.heap.size ∉ fq := fun hm => by have := (HN3.out _ hm).1; omega
  exact ⟨_, t, fq, rfl, HO3.out.grown hgr HN3.out.lt hno, HN3.out.mono (by omega) hgr.size, hl3, HB3.out.trans (below_of_grown hgr (Nat.le_refl _) HB3.out.size)⟩
end Go.Proofs.YtnaecdoeldoipaaGreatDoor
set_option linter.unusedVariables false
set_option linter.unusedSimpArgs false
namespace Go.Proofs.YtnaecdoeldoipaaGreatDoor
open Go.ChangeShapes Go.WideShapes Go.ChangeAt Go.RowKit

def TtTree (x : Tree) : Prop := ∀ (us vs : List Value) (fp fq : List Nat) (w : World), OwC w x.cells us fp → OwC w x.cells vs fq → Lt fp w.heap.size → Lt fq w.heap.size →
  Calls Tryz.prog 16 #[.agg us.toArray, .agg vs.toArray] w fun e w' => e = .returned (.bool true) ∧ Below w.heap.size w w'
set_option maxRecDepth 100000 in
set_option maxHeartbeats 1000000 in
theorem ttTree_of (x : Tree) (ih : ∀ y ∈ x.kids, TtTree y) : TtTree x := by
  intro us vs fp fq w ho ho' hf hf'
  obtain ⟨A1, c1, A2, c2, f1, f2, rfl, w0, w1, w2, o1, o2, rfl⟩ := ho.oTree
  obtain ⟨bA1, bc1, bA2, bc2, bf1, bf2, rfl, bw0, bw1, bw2, bo1, bo2, rfl⟩ := ho'.oTree
  have l1 := hf.left
  have l2 := hf.right
  have k1 := hf'.left
  have k2 := hf'.right
  have HI := hide ih
  obtain ⟨-, hn1, hm1⟩ := o1.nlen
  obtain ⟨-, hn2, hm2⟩ := o2.nlen
  unfold maxLen at hm1 hm2
  have O1 := hide o1
  have O2 := hide o2
  have P1 := hide bo1
  have P2 := hide bo2
  clear ho ho' ih o1 o2 bo1 bo2 w0 w1 w2 bw0 bw1 bw2
  go_enter Tryz.func16, Tryz.ntmps16
  go_upto_region 1 with fail
  generalize hw1 : World.alloc _ _ = w1
  have hb0 : Below w.heap.size w w1 := by rw [← hw1]; exact ((Below.refl _ _).alloc (Nat.le_refl _) _).alloc (by simp) _
  have R0 : Row w1 w.heap.size 26 [.int .i64 x.sort, .int .i64 x.num, .string x.text, .slice A1 x.names.length c1, .slice A2 x.kids.length c2] := by rw [← hw1]; exact (Row.new w _ _).alloc _
  have S0 : Row w1 (w.heap.size + 1) 26 [.int .i64 x.sort, .int .i64 x.num, .string x.text, .slice bA1 x.names.length bc1, .slice bA2 x.kids.length bc2] := by
    rw [← hw1]
    have h := Row.new (w.alloc (.cells #[.int .i64 x.sort, .int .i64 x.num, .string x.text, .slice A1 x.names.length c1, .slice A2 x.kids.length c2] 26)) 26 [.int .i64 x.sort, .int .i64 x.num, .string x.text, .slice bA1 x.names.length bc1, .slice bA2 x.kids.length bc2]
    simpa using h
  have O1 := hide (O1.out.below hb0 l1)
  have O2 := hide (O2.out.below hb0 l2)
  have P1 := hide (P1.out.below hb0 k1)
  have P2 := hide (P2.out.below hb0 k2)
  have l1 := hide (l1.up hb0)
  have l2 := hide (l2.up hb0)
  have k1 := hide (k1.up hb0)
  have k2 := hide (k2.up hb0)
  have c0 := R0.cell 0
  have c1_ := R0.cell 1
  have c2_ := R0.cell 2
  have c3 := R0.cell 3
  have c4 := R0.cell 4
  have d0 := S0.cell 0
  have d1 := S0.cell 1
  have d2 := S0.cell 2
  have d3 := S0.cell 3
  have d4 := S0.cell 4
  have lr0 := R0.lt
  have ls0 := S0.lt
  have HR0 := hide R0
  have HS0 := hide S0
  have HB0 := hide hb0
  clear hw1 hb0 R0 S0
  go_wp2
  clear c0 c1_ c2_ c3 c4 d0 d1 d2 d3 d4
  go_loopw [5] (fun i wr => (∃ k : Nat, k ≤ x.names.length ∧ i = .int .i64 (k : Int)) ∧ Below w1.heap.size w1 wr) (fun i _ => x.names.length - (intOf i).toNat)
  case atStart => exact ⟨⟨0, Nat.zero_le _, rfl⟩, Below.refl _ _⟩
  case round =>
    obtain ⟨⟨k, hk, rfl⟩, hb⟩ := hrel
    have c3 := (HR0.out.below hb lr0).cell 3
    have d3 := (HS0.out.below hb ls0).cell 3
    have hsz := hb.size
    by_cases hlt : k < x.names.length
    · obtain ⟨g, off, rfl, _, hcell, hs⟩ := strs_at (O1.out.below hb l1.out) hlt
      obtain ⟨g', off', rfl, _, hcell', _⟩ := strs_at (P1.out.below hb k1.out) hlt
      have HB := hide hb
      clear hb
      generalize x.names[k] = s at *
      go_wp2
      go_quiet (fail)
      go_wp2
      go_roundw
      case rel => exact ⟨⟨k + 1, by omega, by go_num⟩, below_drewN HB.out _⟩
      case measure => simp [intOf]; omega
    · obtain rfl : k = x.names.length := by omega
      have HB := hide hb
      clear hb
      go_wp2
      go_loopw [6] (fun i wx => (∃ k : Nat, k ≤ x.kids.length ∧ i = .int .i64 (k : Int)) ∧ Below w1.heap.size w1 wx) (fun i _ => x.kids.length - (intOf i).toNat)
      case atStart => exact ⟨⟨0, Nat.zero_le _, rfl⟩, HB.out⟩
      case round =>
        obtain ⟨⟨k, hk2, rfl⟩, hb⟩ := hrel
        have c4 := (HR0.out.below hb lr0).cell 4
        have d4 := (HS0.out.below hb ls0).cell 4
        have hsz2 := hb.size
        obtain ⟨wz, rfl⟩ : ∃ W, W = wr := ⟨_, rfl⟩
        have HBx := hide hb
        by_cases hlt2 : k < x.kids.length
        · obtain ⟨g, off, vs, fi, rfl, hg, hfi, hvl, hcs, hov⟩ := (O2.out.below hb l2.out).elem Tree.cells_len hlt2
          obtain ⟨g', off', vs', fi', rfl, hg', hfi', hvl', hcs', hov'⟩ := (P2.out.below hb k2.out).elem Tree.cells_len hlt2
          have HO := hide hov
          have HO' := hide hov'
          obtain ⟨E1, e1, E2, e2, g1, g2, rfl, y0, y1, y2, z1, z2, rfl⟩ := hov.oTree
          obtain ⟨F1, r1, F2, r2, h1, h2, rfl, by0, by1, by2, bz1, bz2, rfl⟩ := hov'.oTree
          have p0 := hcs 0 _ rfl
          have q0 := hcs' 0 _ rfl
          have p1 := hcs 1 _ rfl
          have q1 := hcs' 1 _ rfl
          have p2 := hcs 2 _ rfl
          have q2 := hcs' 2 _ rfl
          have p3 := hcs 3 _ rfl
          have q3 := hcs' 3 _ rfl
          have p4 := hcs 4 _ rfl
          have q4 := hcs' 4 _ rfl
          simp only [Nat.add_zero] at p0 q0
          have HC := hide (HI.out _ (List.getElem_mem hlt2))
          have HL := hide ((l2.out.sub hfi).mono hb.size)
          have HK := hide ((k2.out.sub hfi').mono hb.size)
          clear hcs hcs' hov hov' hb hfi hfi' z1 z2 bz1 bz2 y0 y1 y2 by0 by1 by2
          generalize x.kids[k] = y at *
          go_wp2_with fail
          go_still_tail 10, (by kernel_rfl)
          change wpList _ _ _ _ _ wz.drew
          go_wp2_with fail
          refine (HC.out _ _ _ _ _ (HO.out.drewN 1) (HO'.out.drewN 1) HL.out HK.out).mono ?_
          rintro e w3 ⟨rfl, hb1⟩
          have hb2 : Below w1.heap.size w1 w3 := (below_drewN HBx.out 1).trans (hb1.mono hsz2)
          clear hb1
          go_wp2
          go_roundw
          case rel => exact ⟨⟨k + 1, by omega, by go_num⟩, hb2⟩
          case measure => simp [intOf]; omega
        · obtain rfl : k = x.kids.length := by omega
          clear hb
          go_wp2
          go_ret
          exact ⟨rfl, HB0.out.trans (HBx.out.mono HB0.out.size)⟩
theorem ttTree_any (x : Tree) : TtTree x := Tree.ind (fun k ih => ttTree_of k ih) x
end Go.Proofs.YtnaecdoeldoipaaGreatDoor
set_option linter.unusedVariables false
set_option linter.unusedSimpArgs false
namespace Go.Proofs.YtnaecdoeldoipaaGreatDoor
open Go.ChangeShapes Go.WideShapes Go.ChangeAt Go.RowKit

set_option maxRecDepth 100000 in
set_option maxHeartbeats 4000000 in
theorem lawFnTreeTop_any (w : World) (x0 : List UInt8) (A0 : Option Addr) (m0 c0 : Nat) (fp0 : List Nat) (ho0 : Ow w (.s 1 (x0).length ((x0).flatMap byteC)) (.slice A0 m0 c0) fp0) (hl0 : Lt fp0 w.heap.size) (ht : Lay w) (hw7 : 5 < w.heap.size) :
    Calls Tryz.prog 3 #[.slice A0 m0 c0] w fun e w' => e = .returned (.bool true) ∧ Below w.heap.size w w' := by
  obtain ⟨rfl, hc0, hm0⟩ := ho0.nlen
  have HO0 := hide ho0
  have HB := hide (Below.refl w.heap.size w)
  have HLY := hide ht
  clear ho0 ht
  by_cases hz0 : (x0.length : Int) ≤ 1048576
  rotate_left
  · have hz' : (1048576 : Int) < x0.length := by omega
    go_enter Tryz.func3, Tryz.ntmps3
    go_wp2
    go_ret
    exact ⟨rfl, HB.out⟩
  have HD := hide (drawTreeWrite_any x0 A0 _ c0 fp0 w HO0.out hl0 (by omega))
  go_enter Tryz.func3, Tryz.ntmps3
  go_wp2_with fail
  refine HD.out.mono ?_
  rintro e w1 ⟨us, t, fq, rfl, ho1, hf1, hbk, hb1⟩
  have HO1 := hide ho1
  have HL1 := hide hf1.lt
  have HB1 := hide hb1
  have HLY1 := hide (HLY.out.below hb1)
  have hw1 : 5 < w1.heap.size := Nat.lt_of_lt_of_le hw7 hb1.size
  obtain ⟨B1, d1, B2, d2, g1, g2, rfl, y0, y1, y2, y3, y4, efq⟩ := ho1.oTree
  clear ho1 hf1 hb1 HD HB HLY y0 y1 y2 y3 y4 efq
  go_upto_region 4 with fail
  generalize hwA : World.alloc _ _ = w2
  have hbA : Below w1.heap.size w1 w2 := by rw [← hwA]; exact (Below.refl _ _).alloc (Nat.le_refl _) _
  have HXt2 := hide (show Row w2 w1.heap.size 26 [.int .i64 t.sort, .int .i64 t.num, .string t.text, .slice B1 t.names.length d1, .slice B2 t.kids.length d2] from by rw [← hwA]; exact Row.new w1 _ _)
  have HOt2 := hide (HO1.out.below hbA HL1.out)
  have HLt2 := hide ((HL1.out).up hbA)
  have HB2 := hide (HB1.out.trans (hbA.mono HB1.out.size))
  have HLY2 := hide (HLY1.out.below hbA)
  have hw2 : 5 < w2.heap.size := Nat.lt_of_lt_of_le hw1 hbA.size
  clear hwA hbA HB1 HLY1 hw1 
  have k0 := HXt2.out.cell 0
  have k1 := HXt2.out.cell 1
  have k2 := HXt2.out.cell 2
  have k3 := HXt2.out.cell 3
  have k4 := HXt2.out.cell 4
  have kl := HXt2.out.lt
  clear HO1 HL1
  obtain ⟨s, hs⟩ : ∃ s, s = t.write := ⟨_, rfl⟩
  have HSW := hide hs
  obtain ⟨n, hn⟩ : ∃ n, n = t.count := ⟨_, rfl⟩
  have HNC := hide hn
  clear hs hn
  have HC := hide (specTreeWrite_any t _ fq w2 HOt2.out HLt2.out (by omega))
  have hs := HSW.out
  rw [← hs] at HC
  clear hs
  go_wp2_with fail
  refine HC.out.mono ?_
  rintro e w3 ⟨rfl, hb3⟩
  have HB3 := hide (HB2.out.trans (hb3.mono HB2.out.size))
  have HLY3 := hide (HLY2.out.below hb3)
  have hw3 : 5 < w3.heap.size := Nat.lt_of_lt_of_le hw2 hb3.size
  have HXt3 := hide (HXt2.out.below hb3 HXt2.out.lt)
  have HOt3 := hide (HOt2.out.below hb3 HLt2.out)
  have HLt3 := hide (HLt2.out.up hb3)
  clear hb3 HC HB2 HLY2 hw2 HXt2 HOt2 HLt2
  clear k0 k1 k2 k3 k4 kl
  have k0 := HXt3.out.cell 0
  have k1 := HXt3.out.cell 1
  have k2 := HXt3.out.cell 2
  have k3 := HXt3.out.cell 3
  have k4 := HXt3.out.cell 4
  have kl := HXt3.out.lt
  have HC := hide (specTreeOk_any t _ fq w3 HOt3.out HLt3.out (by omega))
  go_wp2_with fail
  refine HC.out.mono ?_
  rintro e w4 ⟨rfl, hb4⟩
  have HB4 := hide (HB3.out.trans (hb4.mono HB3.out.size))
  have HLY4 := hide (HLY3.out.below hb4)
  have hw4 : 5 < w4.heap.size := Nat.lt_of_lt_of_le hw3 hb4.size
  have HXt4 := hide (HXt3.out.below hb4 HXt3.out.lt)
  have HOt4 := hide (HOt3.out.below hb4 HLt3.out)
  have HLt4 := hide (HLt3.out.up hb4)
  clear hb4 HC HB3 HLY3 hw3 HXt3 HOt3 HLt3
  clear k0 k1 k2 k3 k4 kl
  have k0 := HXt4.out.cell 0
  have k1 := HXt4.out.cell 1
  have k2 := HXt4.out.cell 2
  have k3 := HXt4.out.cell 3
  have k4 := HXt4.out.cell 4
  have kl := HXt4.out.lt
  have HC := hide (implTreeWrite_any t _ fq w4 HOt4.out HLt4.out (by omega) HLY4.out.tab)
  have hs := HSW.out
  rw [← hs] at HC
  clear hs
  go_wp2_with fail
  refine HC.out.mono ?_
  rintro e w5 ⟨rfl, hb5⟩
  have HB5 := hide (HB4.out.trans (hb5.mono HB4.out.size))
  have HLY5 := hide (HLY4.out.below hb5)
  have hw5 : 5 < w5.heap.size := Nat.lt_of_lt_of_le hw4 hb5.size
  have HXt5 := hide (HXt4.out.below hb5 HXt4.out.lt)
  have HOt5 := hide (HOt4.out.below hb5 HLt4.out)
  have HLt5 := hide (HLt4.out.up hb5)
  clear hb5 HC HB4 HLY4 hw4 HXt4 HOt4 HLt4
  clear k0 k1 k2 k3 k4 kl
  have k0 := HXt5.out.cell 0
  have k1 := HXt5.out.cell 1
  have k2 := HXt5.out.cell 2
  have k3 := HXt5.out.cell 3
  have k4 := HXt5.out.cell 4
  have kl := HXt5.out.lt
  have HC := hide (implTreeOk_any t _ fq w5 HOt5.out HLt5.out (by omega))
  go_wp2_with fail
  refine HC.out.mono ?_
  rintro e w6 ⟨rfl, hb6⟩
  have HB6 := hide (HB5.out.trans (hb6.mono HB5.out.size))
  have HLY6 := hide (HLY5.out.below hb6)
  have hw6 : 5 < w6.heap.size := Nat.lt_of_lt_of_le hw5 hb6.size
  have HXt6 := hide (HXt5.out.below hb6 HXt5.out.lt)
  have HOt6 := hide (HOt5.out.below hb6 HLt5.out)
  have HLt6 := hide (HLt5.out.up hb6)
  clear hb6 HC HB5 HLY5 hw5 HXt5 HOt5 HLt5
  clear k0 k1 k2 k3 k4 kl
  have k0 := HXt6.out.cell 0
  have k1 := HXt6.out.cell 1
  have k2 := HXt6.out.cell 2
  have k3 := HXt6.out.cell 3
  have k4 := HXt6.out.cell 4
  have kl := HXt6.out.lt
  have HC := hide (implTreeParts_any t _ fq w6 HOt6.out HLt6.out (by omega))
  have hn := HNC.out
  rw [← hn] at HC
  clear hn
  go_wp2_with fail
  refine HC.out.mono ?_
  rintro e w7 ⟨rfl, hb7⟩
  have HB7 := hide (HB6.out.trans (hb7.mono HB6.out.size))
  have HLY7 := hide (HLY6.out.below hb7)
  have hw7 : 5 < w7.heap.size := Nat.lt_of_lt_of_le hw6 hb7.size
  have HXt7 := hide (HXt6.out.below hb7 HXt6.out.lt)
  have HOt7 := hide (HOt6.out.below hb7 HLt6.out)
  have HLt7 := hide (HLt6.out.up hb7)
  clear hb7 HC HB6 HLY6 hw6 HXt6 HOt6 HLt6
  clear k0 k1 k2 k3 k4 kl
  have k0 := HXt7.out.cell 0
  have k1 := HXt7.out.cell 1
  have k2 := HXt7.out.cell 2
  have k3 := HXt7.out.cell 3
  have k4 := HXt7.out.cell 4
  have kl := HXt7.out.lt
  by_cases hok : t.ok
  rotate_left
  · rw [tb_false hok]
    have hse : s = .empty := by rw [HSW.out, Tree.write_no hok]
    have e3 : s.toList = [] := by rw [hse, Lib.toList_data]; rfl
    have e4 : (s.toList == []) = true := by simpa using e3
    have hn0 : n = 0 := by rw [HNC.out, Tree.count_no hok]
    subst hn0
    clear HSW hse hok
    go_wp2
    go_ret
    exact ⟨rfl, HB7.out⟩
  rw [tb_true hok]
  have hst : s = t.wr := by rw [HSW.out, Tree.write_yes hok]
  have hs4 : s.size ≤ 9600 := by rw [hst]; exact tok_size hok
  have hrd := treeRead_wr w hok
  rw [← hst] at hrd
  have hnp : n = t.parts := by rw [HNC.out, Tree.count_yes hok]
  have hn1 : 1 ≤ n ∧ n ≤ 120 := by
    have h1 := hok.2
    have h2 := t.parts_eq
    omega
  obtain ⟨hn1, hn2⟩ := hn1
  have HR := hide hrd
  clear hst hrd HSW hok hnp HNC
  have HC := hide (implTreeRead_any s w7 (by unfold maxLen; omega) HLY7.out hw7)
  unfold TreeReadRet at HC
  have hr := HR.out
  rw [hr.1, hr.2] at HC
  clear hr
  go_wp2_with fail
  refine HC.out.mono ?_
  rintro e w8 ⟨us8, fq8, rfl, ho8, hn8, hb8⟩
  have HB8 := hide (HB7.out.trans (hb8.mono HB7.out.size))
  have HXt8 := hide (HXt7.out.below hb8 HXt7.out.lt)
  have HOt8 := hide (HOt7.out.below hb8 HLt7.out)
  have HLt8 := hide (HLt7.out.up hb8)
  have HO8 := hide ho8
  have HL8 := hide hn8.lt
  obtain ⟨C1, e1, C2, e2, g1, g2, rfl, y0, y1, y2, y3, y4, efq⟩ := ho8.oTree
  clear ho8 hn8 hb8 HC HB7 HXt7 HOt7 HLt7 HLY7 hw7 k0 k1 k2 k3 k4 kl y0 y1 y2 y3 y4 efq
  have k0 := HXt8.out.cell 0
  have k1 := HXt8.out.cell 1
  have k2 := HXt8.out.cell 2
  have k3 := HXt8.out.cell 3
  have k4 := HXt8.out.cell 4
  have kl := HXt8.out.lt
  go_upto_region 13 with fail
  generalize hwA : World.alloc _ _ = w9
  have hbA : Below w8.heap.size w8 w9 := by rw [← hwA]; exact (Below.refl _ _).alloc (Nat.le_refl _) _
  have HXu9 := hide (show Row w9 w8.heap.size 26 [.int .i64 t.sort, .int .i64 t.num, .string t.text, .slice C1 t.names.length e1, .slice C2 t.kids.length e2] from by rw [← hwA]; exact Row.new w8 _ _)
  have HOu9 := hide (HO8.out.below hbA HL8.out)
  have HLu9 := hide ((HL8.out).up hbA)
  have HB9 := hide (HB8.out.trans (hbA.mono HB8.out.size))
  have HXt9 := hide (HXt8.out.below hbA HXt8.out.lt)
  have HOt9 := hide (HOt8.out.below hbA HLt8.out)
  have HLt9 := hide (HLt8.out.up hbA)
  clear hwA hbA HB8 HXt8 HOt8 HLt8
  clear k0 k1 k2 k3 k4 kl
  have k0 := HXt9.out.cell 0
  have k1 := HXt9.out.cell 1
  have k2 := HXt9.out.cell 2
  have k3 := HXt9.out.cell 3
  have k4 := HXt9.out.cell 4
  have kl := HXt9.out.lt
  have j0 := HXu9.out.cell 0
  have j1 := HXu9.out.cell 1
  have j2 := HXu9.out.cell 2
  have j3 := HXu9.out.cell 3
  have j4 := HXu9.out.cell 4
  have jl := HXu9.out.lt
  clear HO8 HL8
  have hs5 : (s.size : Int) ≤ 10000 := by omega
  have HC := hide (ttTree_any t _ _ fq8 fq w9 HOu9.out HOt9.out HLu9.out HLt9.out)
  go_wp2_with fail
  refine HC.out.mono ?_
  rintro e w10 ⟨rfl, hb10⟩
  have HB10 := hide (HB9.out.trans (hb10.mono HB9.out.size))
  have HXt10 := hide (HXt9.out.below hb10 HXt9.out.lt)
  have HOt10 := hide (HOt9.out.below hb10 HLt9.out)
  have HLt10 := hide (HLt9.out.up hb10)
  have HXu10 := hide (HXu9.out.below hb10 HXu9.out.lt)
  have HOu10 := hide (HOu9.out.below hb10 HLu9.out)
  have HLu10 := hide (HLu9.out.up hb10)
  clear hb10 HC HB9 HXt9 HOt9 HLt9 HXu9 HOu9 HLu9
  clear k0 k1 k2 k3 k4 kl
  clear j0 j1 j2 j3 j4 jl
  have k0 := HXt10.out.cell 0
  have k1 := HXt10.out.cell 1
  have k2 := HXt10.out.cell 2
  have k3 := HXt10.out.cell 3
  have k4 := HXt10.out.cell 4
  have kl := HXt10.out.lt
  have j0 := HXu10.out.cell 0
  have j1 := HXu10.out.cell 1
  have j2 := HXu10.out.cell 2
  have j3 := HXu10.out.cell 3
  have j4 := HXu10.out.cell 4
  have jl := HXu10.out.lt
  go_wp2
  go_ret
  exact ⟨rfl, HB10.out⟩
end Go.Proofs.YtnaecdoeldoipaaGreatDoor
