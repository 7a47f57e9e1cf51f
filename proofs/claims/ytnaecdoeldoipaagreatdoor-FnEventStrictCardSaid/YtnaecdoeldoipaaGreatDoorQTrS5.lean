/-
  The draws of the reference: a tree of a schema. Printed by gen/dtree.py. The draws of the reference: a tree of just so many parts, and one of so many levels. Printed by gen/dfull.py. A tree that is spoilt: its state. Printed by gen/spoilt.py. A tree that is spoilt: the reference's l5Spoil. Printed by gen/spoilw.py. The draws of the reference: any tree. Printed by gen/dany.py. The draws of the reference: an event. Printed by gen/devent.py. TreeRead of the reference.
-/
import Derived.Deep.RegionHeld3
import Derived.Deep.RegionLaw
import Derived.Deep.Cut
import Derived.Deep.CutRange
import Derived.Deep.DeepCutAuto
import Derived.Test.YtnaecdoeldoipaaGreatDoorQOwX
import Derived.Test.YtnaecdoeldoipaaGreatDoorQEventOk
import Derived.Test.YtnaecdoeldoipaaGreatDoorQSpoil0
import Derived.Test.YtnaecdoeldoipaaGreatDoorQTreeTS
import Derived.Test.YtnaecdoeldoipaaGreatDoorQDrawT
import Derived.Test.YtnaecdoeldoipaaGreatDoorQTrT
import Derived.Test.YtnaecdoeldoipaaGreatDoorQDrawU
import Derived.Test.YtnaecdoeldoipaaGreatDoorQBend
import Derived.Test.YtnaecdoeldoipaaGreatDoorQTrS4
set_option linter.unusedVariables false
set_option linter.unusedSimpArgs false
namespace Go.Proofs.YtnaecdoeldoipaaGreatDoor
open Go.ChangeShapes Go.WideShapes Go.ChangeAt Go.RowKit

def TDraw (g : Nat) (L : List UInt8) (k N M : Nat) (w : World) (e : Ending) (w' : World) : Prop :=
  ∃ (x : Tree) (us : List Value) (fq : List Nat) (k' : Nat), e = .returned (.agg us.toArray) ∧ OwC w' x.cells us fq ∧ New w' fq w.heap.size ∧ x.bulk ≤ N ∧ k' ≤ k + M ∧ RdD w' g L k' ∧ w.grownBy w' (some g)
def DTree (x : Kind) : Prop := ∀ (us : List Value) (fp : List Nat) (L : List UInt8) (k g lv : Nat) (w : World), OwC w x.cells us fp → Lt fp w.heap.size → x.good lv → g ∉ fp → RdD w g L k → k + x.tp ≤ 100000000 → x.tn ≤ 1000000 →
  Calls Tryz.prog 54 #[.pointer (some ⟨g, 0, none⟩), .agg us.toArray] w (TDraw g L k x.tn x.tp w)
/-- the state of the drawing: the schema's box, the result's block, what the schema's slices hold, the source -/
structure TrD (s : Int) (ns : List ByteArray) (ks : List Kind) (A1 : Option Addr) (c1 : Nat) (A2 : Option Addr) (c2 : Nat) (f1 f2 : List Nat) (g : Nat) (L : List UInt8) (w W : World) (k' : Nat) : Prop where
  K : Row W w.heap.size 38 [.int .i64 s, .slice A1 ns.length c1, .slice A2 ks.length c2]
  Z : Row W (w.heap.size + 1) 26 [.int .i64 0, .int .i64 0, .string .empty, .slice none 0 0, .slice none 0 0]
  o1 : Ow W (.s 1 ns.length (ns.flatMap strC)) (.slice A1 ns.length c1) f1
  o2 : Ow W (.s 3 ks.length (ks.flatMap Kind.cells)) (.slice A2 ks.length c2) f2
  lt : Lt (f1 ++ f2) w.heap.size
  ng : g ∉ f1 ++ f2
  gw : g < w.heap.size
  rd : RdD W g L k'
  gr : w.grownBy W (some g)
section
variable {s : Int} {ns : List ByteArray} {ks : List Kind} {A1 : Option Addr} {c1 : Nat} {A2 : Option Addr} {c2 : Nat} {f1 f2 : List Nat} {g : Nat} {L : List UInt8} {w W W' : World} {k' k2 : Nat}
theorem TrD.tick (h : TrD s ns ks A1 c1 A2 c2 f1 f2 g L w W k') (hg : W.grownBy W' (some g)) (hr : RdD W' g L k2) : TrD s ns ks A1 c1 A2 c2 f1 f2 g L w W' k2 :=
  have hw := h.gr.size
  have h0 := h.gw
  ⟨h.K.grown hg (fun e => by injection e with e; omega), h.Z.grown hg (fun e => by injection e with e; omega),
    h.o1.grown hg (h.lt.left.mono hw) (fun hm => h.ng (List.mem_append_left _ hm)), h.o2.grown hg (h.lt.right.mono hw) (fun hm => h.ng (List.mem_append_right _ hm)), h.lt, h.ng, h.gw, hr, only_trans h.gr hg⟩
theorem TrD.low (h : TrD s ns ks A1 c1 A2 c2 f1 f2 g L w W k') {B : Nat} (hb : Below B W W') (hB : w.heap.size + 1 + 1 ≤ B) : TrD s ns ks A1 c1 A2 c2 f1 f2 g L w W' k' :=
  have h0 := h.gw
  ⟨h.K.below hb (by omega), h.Z.below hb (by omega), h.o1.below hb (h.lt.left.mono (by omega)), h.o2.below hb (h.lt.right.mono (by omega)), h.lt, h.ng, h.gw, h.rd.low hb (by omega), only_lowR h.gr hb (by omega)⟩
theorem TrD.fin (h : TrD s ns ks A1 c1 A2 c2 f1 f2 g L w W k') {t : Tree} {vs : List Value} {fq : List Nat} {k0 N M : Nat} (ho : OwC W t.cells vs fq) (hn : New W fq (w.heap.size + 1 + 1)) (hb : t.bulk ≤ N) (hk : k' ≤ k0 + M) : TDraw g L k0 N M w (.returned (.agg vs.toArray)) (putN W (w.heap.size + 1) 0 vs) := by
  have h0 := h.gw
  have hgr := setN_grown vs 0 (grown_refl W (some (w.heap.size + 1)))
  have hno : w.heap.size + 1 ∉ fq := hn.out (by omega)
  have hb2 : Below w.heap.size W (putN W (w.heap.size + 1) 0 vs) := below_of_grown hgr (by omega) h.gr.size
  exact ⟨t, vs, fq, k', rfl, ho.grown hgr hn.lt hno, (hn.grown hgr (fun b e => by injection e with e; subst e; exact hno)).mono (by omega), hb, hk, h.rd.low hb2 h0, only_lowR h.gr hb2 (Nat.le_refl _)⟩
end
theorem cell_grD {w w' : World} {g b i : Nat} {v : Value} (hg : w.grownBy w' (some g)) (h : w.cell? ⟨b, i, none⟩ = some v) (hn : b ≠ g) : w'.cell? ⟨b, i, none⟩ = some v :=
  (World.cell?_of_block (a := ⟨b, i, none⟩) (hg.block b (cell_lt h) (fun e => by injection e with e; exact hn e))).trans h
theorem cell_setD {w : World} {g i b j : Nat} {u v : Value} (h : w.cell? ⟨g, i, none⟩ = some v) (hg : g ≠ b) : (w.setCell ⟨b, j, none⟩ u).cell? ⟨g, i, none⟩ = some v := (World.cell?_of_block (a := ⟨g, i, none⟩) (Below.heap_setCell w ⟨b, j, none⟩ u g hg)).trans h
theorem cell_gbD {w w1 : World} {v v1 x : Value} {g i : Nat} (h : GB w w1 v v1) (hc : w.cell? ⟨g, i, none⟩ = some x) (hn : v.ownBlock ≠ some g) : w1.cell? ⟨g, i, none⟩ = some x := (World.cell?_of_block (a := ⟨g, i, none⟩) (h.grown.block g (cell_lt hc) hn.symm)).trans hc
theorem kid_cells {W : World} {ks : List Kind} {A2 : Option Addr} {c2 : Nat} {f2 : List Nat} (h : Ow W (.s 3 ks.length (ks.flatMap Kind.cells)) (.slice A2 ks.length c2) f2) {i : Nat} (hi : i < ks.length) :
    ∃ gk off q0 q1 q2 fi, A2 = some ⟨gk, off, none⟩ ∧ gk ∈ f2 ∧ fi ⊆ f2 ∧ W.cell? ⟨gk, off + i * 3, none⟩ = some q0 ∧ W.cell? ⟨gk, off + i * 3 + 1, none⟩ = some q1 ∧ W.cell? ⟨gk, off + i * 3 + 2, none⟩ = some q2 ∧ OwC W ks[i].cells [q0, q1, q2] fi := by
  obtain ⟨gk, off, us, fi, e, h1, h2, h3, h4, h5⟩ := h.elem Kind.cells_len hi
  obtain ⟨q0, q1, q2, rfl⟩ : ∃ a b c, us = [a, b, c] := by
    match us, h3 with
    | [a, b, c], _ => exact ⟨a, b, c, rfl⟩
  exact ⟨gk, off, q0, q1, q2, fi, e, h1, h2, h4 0 _ rfl, h4 1 _ rfl, h4 2 _ rfl, h5⟩
theorem name_cell {W : World} {ns : List ByteArray} {A1 : Option Addr} {c1 : Nat} {f1 : List Nat} (h : Ow W (.s 1 ns.length (ns.flatMap strC)) (.slice A1 ns.length c1) f1) {i : Nat} (hi : i < ns.length) :
    ∃ gk off, A1 = some ⟨gk, off, none⟩ ∧ gk ∈ f1 ∧ W.cell? ⟨gk, off + i, none⟩ = some (.string ns[i]) ∧ ns[i].size ≤ maxLen := by
  obtain ⟨gk, off, us, fi, e, h1, h2, h3, h4, h5⟩ := h.elem strC_len hi
  obtain ⟨q, rfl⟩ : ∃ a, us = [a] := by
    match us, h3 with
    | [a], _ => exact ⟨a, rfl⟩
  obtain ⟨_, _, ⟨rfl, h6, rfl⟩, _, _⟩ := h5
  exact ⟨gk, off, e, h1, by have h := h4 0 _ rfl; rw [Nat.mul_one] at h; exact h, h6⟩
set_option maxRecDepth 100000 in
set_option maxHeartbeats 4000000 in
theorem dTree_of (s : Int) (ns : List ByteArray) (ks : List Kind) (ih : ∀ y ∈ ks, DTree y) : DTree (.mk s ns ks) := by
  intro us fp L k g lv w ho hf hgood hng hr hk htn
  obtain ⟨A1, c1, A2, c2, f1, f2, rfl, w0, o1, o2, rfl⟩ := ho.oKind
  simp only [Kind.sort, Kind.names, Kind.kids] at w0 o1 o2 ⊢
  have hsh : (Kind.mk s ns ks).shape := ((Kind.good_iff _ lv).1 hgood).2.1
  have hgk : Kind.goodS ks (lv + 1) := ((Kind.good_iff _ lv).1 hgood).2.2
  unfold Kind.shape at hsh
  simp only [Kind.sort, Kind.names, Kind.kids] at hsh
  have hgw := hr.lt
  have htn2 := Kind.tn_eq (.mk s ns ks)
  have htp2 := Kind.tp_eq (.mk s ns ks)
  simp only [Kind.names, Kind.kids] at htn2 htp2
  obtain ⟨N, hN⟩ : ∃ N, (Kind.mk s ns ks).tn = N := ⟨_, rfl⟩
  obtain ⟨M, hM⟩ : ∃ M, (Kind.mk s ns ks).tp = M := ⟨_, rfl⟩
  rw [hN] at htn htn2 ⊢
  rw [hM] at hk htp2 ⊢
  have HTN := hide htn2
  have HTP := hide htp2
  have HGK := hide hgk
  have HIH := hide ih
  have HSH := hide hsh
  have O1 := hide o1
  have O2 := hide o2
  have HR := hide hr
  have HF := hide hf
  have HNG := hide hng
  clear hN hM htn2 htp2 hgk ih hsh ho o1 o2 hr hgood hf hng
  go_enter Tryz.func54, Tryz.ntmps54
  go_upto_region 2 with fail
  generalize hw1 : World.alloc _ _ = w1
  have hbA : Below w.heap.size w w1 := by rw [← hw1]; exact (((Below.refl _ _).alloc (Nat.le_refl _) _).alloc (by simp) _).alloc (by simp; omega) _
  have HT := hide (show Row w1 (w.heap.size + 1 + 1) 26 (treeMkR s (.slice none 0 0) (.slice none 0 0)) from by
    rw [← hw1]
    have h := Row.new ((w.alloc (.cells #[.int .i64 s, .slice A1 ns.length c1, .slice A2 ks.length c2] 38)).alloc (.cells [.int .i64 0, .int .i64 0, .string .empty, .slice none 0 0, .slice none 0 0].toArray 26)) 26 (treeMkR s (.slice none 0 0) (.slice none 0 0))
    rw [World.size_alloc, World.size_alloc] at h
    exact h)
  have HD := hide (show TrD s ns ks A1 c1 A2 c2 f1 f2 g L w w1 k from
    ⟨by rw [← hw1]; exact ((Row.new w _ _).alloc _).alloc _, by
      rw [← hw1]
      have h := (Row.new (w.alloc (.cells #[.int .i64 s, .slice A1 ns.length c1, .slice A2 ks.length c2] 38)) 26 [.int .i64 0, .int .i64 0, .string .empty, .slice none 0 0, .slice none 0 0]).alloc (.cells (treeMkR s (.slice none 0 0) (.slice none 0 0)).toArray 26)
      rw [World.size_alloc] at h
      exact h, O1.out.below hbA HF.out.left, O2.out.below hbA HF.out.right, HF.out, HNG.out, hgw, HR.out.below hbA, grownBy_below hbA (some g)⟩)
  have hs1 : w.heap.size + 1 + 1 < w1.heap.size := HT.out.lt
  clear hw1 hbA O1 O2 HR
  have k0 := HD.out.K.cell 0
  have k1 := HD.out.K.cell 1
  have k2 := HD.out.K.cell 2
  have kl := HD.out.K.lt
  have hgn1 : g ≠ w.heap.size := by omega
  have hcs : s = 1 ∨ s = 2 ∨ s = 3 ∨ (s = 6 ∧ ks.length = 1) ∨ (s = 4 ∧ ks.length = 1) ∨ (s = 5 ∧ ns.length = ks.length) := by
    rcases HSH.out with ⟨h1, h2, h3⟩ | ⟨h1, h2, h3⟩ | ⟨h1, h2, h3⟩
    · rcases h1 with h | h | h <;> simp [h]
    · rcases h1 with h | h
      · exact .inr (.inr (.inr (.inr (.inl ⟨h, h3⟩))))
      · exact .inr (.inr (.inr (.inl ⟨h, h3⟩)))
    · exact .inr (.inr (.inr (.inr (.inr ⟨h1, h3⟩))))
  rcases hcs with rfl | rfl | rfl | ⟨rfl, hk1⟩ | ⟨rfl, hk1⟩ | ⟨rfl, hk1⟩
  · skip
    have HC := hide (l5Num_any HD.out.rd (by omega))
    go_wp2_with fail
    refine HC.out.mono ?_
    rintro e w5 ⟨n, kx, rfl, hn0, hn1, hk5, h5, hg5⟩
    have HD5 := hide (HD.out.tick hg5 h5)
    have HT5 := hide (HT.out.grown hg5 (fun e => by injection e with e; omega))
    have HTX := hide (HT5.out.set 1 (.int .i64 n))
    have hBX : Below (w.heap.size + 1 + 1) w5 (w5.setCell ⟨w.heap.size + 1 + 1, 1, none⟩ (.int .i64 n)) := (Below.refl _ _).setCell (p := ⟨w.heap.size + 1 + 1, 1, none⟩) (Nat.le_refl _) _
    have HDX := hide (HD5.out.low hBX (Nat.le_refl _))
    clear h5 hg5 HC HD k0 k1 k2 kl hBX
    have x1f := HT5.out.frozen 1
    have p0 := HT5.out.cell 0
    have p1 := HT5.out.cell 1
    have p2 := HT5.out.cell 2
    have p3 := HT5.out.cell 3
    have p4 := HT5.out.cell 4
    have q0 := HTX.out.cell 0
    have q1 := HTX.out.cell 1
    have q2 := HTX.out.cell 2
    have q3 := HTX.out.cell 3
    have q4 := HTX.out.cell 4
    have z0 := HDX.out.Z.cell 0
    have zf0 := HDX.out.Z.frozen 0
    have z1 := HDX.out.Z.cell 1
    have zf1 := HDX.out.Z.frozen 1
    have z2 := HDX.out.Z.cell 2
    have zf2 := HDX.out.Z.frozen 2
    have z3 := HDX.out.Z.cell 3
    have zf3 := HDX.out.Z.frozen 3
    have z4 := HDX.out.Z.cell 4
    have zf4 := HDX.out.Z.frozen 4
    have lq := HTX.out.lt
    have lq5 := HT5.out.lt
    have lz := HDX.out.Z.lt
    go_wp2
    refine bodyPost_ret (ret_row rfl _ _ (w.heap.size + 1) 26 [.int .i64 1, .int .i64 n, .string .empty, .slice none 0 0, .slice none 0 0] (HDX.out.Z.setAll [.int .i64 1, .int .i64 n, .string .empty, .slice none 0 0, .slice none 0 0] rfl) _ rfl Tryz.underlying26 rfl (by kernel_rfl)) rfl ?_
    exact HDX.out.fin (t := .mk 1 (n) .empty [] []) (tleaf_ow _ (by decide) (wfiR (by omega) (by omega)) (by decide)) (New.nil _ _) (by rw [Tree.bulk_leaf]; exact Nat.zero_le _) (by have := HTP.out; omega)
  · skip
    have HC := hide (l5Text_any HD.out.rd (by omega))
    go_wp2_with fail
    refine HC.out.mono ?_
    rintro e w5 ⟨x, kx, rfl, hx, hk5, h5, hg5⟩
    have HD5 := hide (HD.out.tick hg5 h5)
    have HT5 := hide (HT.out.grown hg5 (fun e => by injection e with e; omega))
    have HTX := hide (HT5.out.set 2 (.string x))
    have hBX : Below (w.heap.size + 1 + 1) w5 (w5.setCell ⟨w.heap.size + 1 + 1, 2, none⟩ (.string x)) := (Below.refl _ _).setCell (p := ⟨w.heap.size + 1 + 1, 2, none⟩) (Nat.le_refl _) _
    have HDX := hide (HD5.out.low hBX (Nat.le_refl _))
    clear h5 hg5 HC HD k0 k1 k2 kl hBX
    have x2f := HT5.out.frozen 2
    have p0 := HT5.out.cell 0
    have p1 := HT5.out.cell 1
    have p2 := HT5.out.cell 2
    have p3 := HT5.out.cell 3
    have p4 := HT5.out.cell 4
    have q0 := HTX.out.cell 0
    have q1 := HTX.out.cell 1
    have q2 := HTX.out.cell 2
    have q3 := HTX.out.cell 3
    have q4 := HTX.out.cell 4
    have z0 := HDX.out.Z.cell 0
    have zf0 := HDX.out.Z.frozen 0
    have z1 := HDX.out.Z.cell 1
    have zf1 := HDX.out.Z.frozen 1
    have z2 := HDX.out.Z.cell 2
    have zf2 := HDX.out.Z.frozen 2
    have z3 := HDX.out.Z.cell 3
    have zf3 := HDX.out.Z.frozen 3
    have z4 := HDX.out.Z.cell 4
    have zf4 := HDX.out.Z.frozen 4
    have lq := HTX.out.lt
    have lq5 := HT5.out.lt
    have lz := HDX.out.Z.lt
    go_wp2
    refine bodyPost_ret (ret_row rfl _ _ (w.heap.size + 1) 26 [.int .i64 2, .int .i64 0, .string x, .slice none 0 0, .slice none 0 0] (HDX.out.Z.setAll [.int .i64 2, .int .i64 0, .string x, .slice none 0 0, .slice none 0 0] rfl) _ rfl Tryz.underlying26 rfl (by kernel_rfl)) rfl ?_
    exact HDX.out.fin (t := .mk 2 (0) x [] []) (tleaf_ow _ (by decide) (by decide) (by unfold maxLen; omega)) (New.nil _ _) (by rw [Tree.bulk_text]; have := HTN.out; omega) (by have := HTP.out; omega)
  · skip
    have HC := hide (pick_any HD.out.rd (n := 2) (by omega) (by omega) (by omega))
    go_wp2_with fail
    refine HC.out.mono ?_
    rintro e w5 ⟨r, rfl, hr2, h5, hg5⟩
    have HD5 := hide (HD.out.tick hg5 h5)
    have HT5 := hide (HT.out.grown hg5 (fun e => by injection e with e; omega))
    have HTX := hide (HT5.out.set 1 (.int .i64 (r : Int)))
    have hBX : Below (w.heap.size + 1 + 1) w5 (w5.setCell ⟨w.heap.size + 1 + 1, 1, none⟩ (.int .i64 (r : Int))) := (Below.refl _ _).setCell (p := ⟨w.heap.size + 1 + 1, 1, none⟩) (Nat.le_refl _) _
    have HDX := hide (HD5.out.low hBX (Nat.le_refl _))
    clear h5 hg5 HC HD k0 k1 k2 kl hBX
    have x1f := HT5.out.frozen 1
    have p0 := HT5.out.cell 0
    have p1 := HT5.out.cell 1
    have p2 := HT5.out.cell 2
    have p3 := HT5.out.cell 3
    have p4 := HT5.out.cell 4
    have q0 := HTX.out.cell 0
    have q1 := HTX.out.cell 1
    have q2 := HTX.out.cell 2
    have q3 := HTX.out.cell 3
    have q4 := HTX.out.cell 4
    have z0 := HDX.out.Z.cell 0
    have zf0 := HDX.out.Z.frozen 0
    have z1 := HDX.out.Z.cell 1
    have zf1 := HDX.out.Z.frozen 1
    have z2 := HDX.out.Z.cell 2
    have zf2 := HDX.out.Z.frozen 2
    have z3 := HDX.out.Z.cell 3
    have zf3 := HDX.out.Z.frozen 3
    have z4 := HDX.out.Z.cell 4
    have zf4 := HDX.out.Z.frozen 4
    have lq := HTX.out.lt
    have lq5 := HT5.out.lt
    have lz := HDX.out.Z.lt
    go_wp2
    refine bodyPost_ret (ret_row rfl _ _ (w.heap.size + 1) 26 [.int .i64 3, .int .i64 (r : Int), .string .empty, .slice none 0 0, .slice none 0 0] (HDX.out.Z.setAll [.int .i64 3, .int .i64 (r : Int), .string .empty, .slice none 0 0, .slice none 0 0] rfl) _ rfl Tryz.underlying26 rfl (by kernel_rfl)) rfl ?_
    exact HDX.out.fin (t := .mk 3 ((r : Int)) .empty [] []) (tleaf_ow _ (by decide) (wfiR (by omega) (by omega)) (by decide)) (New.nil _ _) (by rw [Tree.bulk_leaf]; exact Nat.zero_le _) (by have := HTP.out; omega)
  · have HC := hide (pick_any HD.out.rd (n := 3) (by omega) (by omega) (by omega))
    go_wp2_with fail
    refine HC.out.mono ?_
    rintro e w5 ⟨r, rfl, hr3, h5, hg5⟩
    have HD5 := hide (HD.out.tick hg5 h5)
    have HT5 := hide (HT.out.grown hg5 (fun e => by injection e with e; omega))
    clear h5 hg5 HC HD HT k0 k1 k2 kl
    by_cases h0 : r = 0
    · subst h0
      have q0 := HT5.out.cell 0
      have q1 := HT5.out.cell 1
      have q2 := HT5.out.cell 2
      have q3 := HT5.out.cell 3
      have q4 := HT5.out.cell 4
      have z0 := HD5.out.Z.cell 0
      have zf0 := HD5.out.Z.frozen 0
      have z1 := HD5.out.Z.cell 1
      have zf1 := HD5.out.Z.frozen 1
      have z2 := HD5.out.Z.cell 2
      have zf2 := HD5.out.Z.frozen 2
      have z3 := HD5.out.Z.cell 3
      have zf3 := HD5.out.Z.frozen 3
      have z4 := HD5.out.Z.cell 4
      have zf4 := HD5.out.Z.frozen 4
      have lq := HT5.out.lt
      have lz := HD5.out.Z.lt
      go_wp2
      refine bodyPost_ret (ret_row rfl _ _ (w.heap.size + 1) 26 (treeMkR 6 (.slice none 0 0) (.slice none 0 0)) (HD5.out.Z.setAll (treeMkR 6 (.slice none 0 0) (.slice none 0 0)) rfl) _ rfl Tryz.underlying26 rfl (by kernel_rfl)) rfl ?_
      exact HD5.out.fin (t := .mk 6 0 .empty [] []) (tleaf_ow _ (by decide) (by decide) (by decide)) (New.nil _ _) (by rw [Tree.bulk_leaf]; exact Nat.zero_le _) (by have := HTP.out; omega)
    · have hr0 : (0 : Int) < (r : Int) := by omega
      have hlk : 0 < ks.length := by omega
      obtain ⟨gk, off, q0, q1, q2, fi, rfl, hgm, hfs, p0, p1, p2, hoy⟩ := kid_cells HD5.out.o2 hlk
      simp only [Nat.zero_mul, Nat.add_zero] at p0 p1 p2
      have pl := cell_lt p0
      have hmem : ks[0] ∈ ks := List.getElem_mem hlk
      have HTA := hide (show ks[0].tn + Kind.tnS (ks.drop 1) = Kind.tnS ks ∧ ks[0].tp + Kind.tpS (ks.drop 1) = Kind.tpS ks from by
        match ks, hlk with
        | y :: r, _ => exact ⟨rfl, rfl⟩)
      have HKC := hide (HIH.out ks[0] hmem [q0, q1, q2] fi L (k + 1) g (lv + 1) w5 hoy (fun b hb => Nat.lt_of_lt_of_le (HD5.out.lt.right b (hfs hb)) HD5.out.gr.size) (Kind.goodS_at HGK.out hlk) (fun hm => HD5.out.ng (List.mem_append_right _ (hfs hm))) HD5.out.rd (by have := HTP.out; have := HTA.out; omega) (by have := HTN.out; have := HTA.out; omega))
      have k2 := HD5.out.K.cell 2
      have kl := HD5.out.K.lt
      clear hoy hfs
      generalize ks[0] = y at *
      rw [hk1] at k2
      go_wp2_with fail
      refine HKC.out.mono ?_
      rintro e w6 ⟨t, us6, fq6, k6, rfl, ho6, hn6, hb6, hk6, hr6, hg6⟩
      obtain ⟨E1, e1, E2, e2, g1, g2, rfl, x0, x1, x2, x3, x4, efq⟩ := ho6.oTree
      have HD6 := hide (HD5.out.tick hg6 hr6)
      have HT6 := hide (HT5.out.grown hg6 (fun e => by injection e with e; omega))
      have HO6 := hide ho6
      have HN6 := hide (hn6.mono (show w.heap.size + 1 + 1 + 1 ≤ w5.heap.size from HT5.out.lt))
      have HK6 := hide hk6
      clear ho6 hn6 hr6 hg6 x3 x4 efq HKC k2 kl p0 p1 p2 pl
      have t4 := HT6.out.cell 4
      have t4f := HT6.out.frozen 4
      have tl := HT6.out.lt
      go_upto_region 23 with fail
      generalize hw7 : World.alloc _ _ = w7
      have hsz6 : (w6.setCell ⟨w.heap.size + 1 + 1, 4, none⟩ (.slice (some ⟨w6.heap.size, 0, none⟩) 1 1)).heap.size = w6.heap.size := by simp
      have hbA : Below (w.heap.size + 1 + 1) w6 w7 := by rw [← hw7]; exact ((Below.refl _ _).setCell (p := ⟨w.heap.size + 1 + 1, 4, none⟩) (Nat.le_refl _) _).alloc (by rw [hsz6]; exact Nat.le_of_lt tl) _
      have HRow := hide (show Row w7 w6.heap.size 26 [.int .i64 t.sort, .int .i64 t.num, .string t.text, .slice E1 t.names.length e1, .slice E2 t.kids.length e2] from by
        rw [← hw7]
        have h := Row.new (w6.setCell ⟨w.heap.size + 1 + 1, 4, none⟩ (.slice (some ⟨w6.heap.size, 0, none⟩) 1 1)) 26 [.int .i64 t.sort, .int .i64 t.num, .string t.text, .slice E1 t.names.length e1, .slice E2 t.kids.length e2]
        rw [hsz6] at h
        exact h)
      have HT7 := hide (show Row w7 (w.heap.size + 1 + 1) 26 (treeMkR 6 (.slice none 0 0) (.slice (some ⟨w6.heap.size, 0, none⟩) 1 1)) from by rw [← hw7]; exact (HT6.out.set 4 _).alloc _)
      have hnb6 : w.heap.size + 1 + 1 ∉ fq6 := HN6.out.out (Nat.lt_succ_self _)
      have hw6b : w.heap.size + 1 + 1 < w6.heap.size := tl
      have HO7 := hide (show OwC w7 t.cells [.int .i64 t.sort, .int .i64 t.num, .string t.text, .slice E1 t.names.length e1, .slice E2 t.kids.length e2] fq6 from by rw [← hw7]; exact (HO6.out.setCell (a := ⟨w.heap.size + 1 + 1, 4, none⟩) hnb6 _).alloc (by rw [hsz6]; exact HN6.out.lt) _)
      have HN7 := hide (show New w7 fq6 (w.heap.size + 1 + 1 + 1) from by rw [← hw7]; exact (HN6.out.setCell _ _).alloc _)
      have HD7 := hide (HD6.out.low hbA (Nat.le_refl _))
      clear hw7 hbA hsz6 hnb6 t4 t4f tl HT6 HD6
      have q0 := HT7.out.cell 0
      have q1 := HT7.out.cell 1
      have q2 := HT7.out.cell 2
      have q3 := HT7.out.cell 3
      have q4 := HT7.out.cell 4
      have z0 := HD7.out.Z.cell 0
      have zf0 := HD7.out.Z.frozen 0
      have z1 := HD7.out.Z.cell 1
      have zf1 := HD7.out.Z.frozen 1
      have z2 := HD7.out.Z.cell 2
      have zf2 := HD7.out.Z.frozen 2
      have z3 := HD7.out.Z.cell 3
      have zf3 := HD7.out.Z.frozen 3
      have z4 := HD7.out.Z.cell 4
      have zf4 := HD7.out.Z.frozen 4
      have lq := HT7.out.lt
      have lz := HD7.out.Z.lt
      go_wp2
      refine bodyPost_ret (ret_row rfl _ _ (w.heap.size + 1) 26 (treeMkR 6 (.slice none 0 0) (.slice (some ⟨w6.heap.size, 0, none⟩) 1 1)) (HD7.out.Z.setAll (treeMkR 6 (.slice none 0 0) (.slice (some ⟨w6.heap.size, 0, none⟩) 1 1)) rfl) _ rfl Tryz.underlying26 rfl (by kernel_rfl)) rfl ?_
      exact HD7.out.fin (t := .mk 6 0 .empty [] [t]) (tone_ow (by decide) HO7.out w6.heap.size HRow.out) ((HN7.out.mono (Nat.le_succ _)).consHiR (fun hm => Nat.lt_irrefl _ (HN6.out.lt _ hm)) (Nat.le_of_lt hw6b) (Unf.row HRow.out) HRow.out.lt) (by rw [Tree.bulk_one]; have := HTN.out; have := HTA.out; omega) (by have := HTP.out; have := HTA.out; have := HK6.out; omega)
  · have HC := hide (pick_any HD.out.rd (n := 4) (by omega) (by omega) (by omega))
    obtain ⟨ia, hia, ha0, ha1, ha2⟩ := info_parts info_strR
    obtain ⟨ib, hib, hb0, hb1, hb2⟩ := info_parts info_TreeR
    have HIa := hide hia
    have HIb := hide hib
    clear hia hib
    go_wp2_with fail
    refine HC.out.mono ?_
    rintro e w5 ⟨n0, rfl, hn4, h5, hg5⟩
    have HD5 := hide (HD.out.tick hg5 h5)
    have HT5 := hide (show TreeAtR w5 (w.heap.size + 1 + 1) 4 (.slice none 0 0) [] [] (.slice none 0 0) [] [] [] from ⟨HT.out.grown hg5 (fun e => by injection e with e; omega), OwS.nil _ _ _ _ _, OwS.nil _ _ _ _ _, Nat.lt_succ_self _, fun g h => (by cases h), fun g h => (by cases h), fun g h => (by cases h), fun g h => (by cases h)⟩)
    have hlk : 0 < ks.length := by omega
    have HTA := hide (show ks[0].tn ≤ Kind.tnS ks ∧ ks[0].tp ≤ Kind.tpS ks from by
      match ks, hlk with
      | y :: r, _ => exact ⟨Nat.le_add_right _ _, Nat.le_add_right _ _⟩)
    obtain ⟨TN, hTN⟩ : ∃ TN, Kind.tnS ks = TN := ⟨_, rfl⟩
    obtain ⟨TP, hTP⟩ : ∃ TP, Kind.tpS ks = TP := ⟨_, rfl⟩
    rw [hTN] at HTN HTA
    rw [hTP] at HTP HTA
    clear h5 hg5 HC HD HT k0 k1 k2 kl hTN hTP
    go_wp2_with fail
    go_loopw [6] (fun iv wr => ∃ (n : Nat) (ts : List Tree) (B2 : Option Addr) (n2 d2 : Nat) (us2 : List Value) (fi2 : List Nat) (kx : Nat), iv = .int .i64 (n : Int) ∧ TreeAtR wr (w.heap.size + 1 + 1) 4 (.slice none 0 0) [] [] (.slice B2 n2 d2) ts us2 fi2 ∧ TrD 4 ns ks A1 c1 A2 c2 f1 f2 g L w wr kx ∧ ts.length + n ≤ 3 ∧ Tree.bulkS ts ≤ ts.length * TN ∧ kx ≤ k + 1 + ts.length * TP) (fun iv _ => (intOf iv).toNat)
    case atStart => exact ⟨n0, [], none, 0, 0, [], [], k + 1, rfl, HT5.out, HD5.out, by simp; omega, Nat.zero_le _, Nat.le_add_right _ _⟩
    case round =>
      obtain ⟨n, ts, B2, n2, d2, us2, fi2, kx, rfl, hT, hD, hln, hbk, hkx⟩ := hrel
      have HTr := hide hT
      have HDr := hide hD
      have HBK := hide hbk
      have HKX := hide hkx
      clear hT hD hbk hkx HD5 HT5
      rcases n with _ | n
      · have HTX := hide HTr.out.box
        have hm := Nat.mul_le_mul_right TN (show ts.length ≤ 3 by omega)
        have hm2 := Nat.mul_le_mul_right TP (show ts.length ≤ 3 by omega)
        have q0 := HTX.out.cell 0
        have q1 := HTX.out.cell 1
        have q2 := HTX.out.cell 2
        have q3 := HTX.out.cell 3
        have q4 := HTX.out.cell 4
        have z0 := HDr.out.Z.cell 0
        have zf0 := HDr.out.Z.frozen 0
        have z1 := HDr.out.Z.cell 1
        have zf1 := HDr.out.Z.frozen 1
        have z2 := HDr.out.Z.cell 2
        have zf2 := HDr.out.Z.frozen 2
        have z3 := HDr.out.Z.cell 3
        have zf3 := HDr.out.Z.frozen 3
        have z4 := HDr.out.Z.cell 4
        have zf4 := HDr.out.Z.frozen 4
        have lq := HTX.out.lt
        have lz := HDr.out.Z.lt
        go_wp2
        refine bodyPost_ret (ret_row rfl _ _ (w.heap.size + 1) 26 (treeMkR 4 (.slice none 0 0) (.slice B2 n2 d2)) (HDr.out.Z.setAll (treeMkR 4 (.slice none 0 0) (.slice B2 n2 d2)) rfl) _ rfl Tryz.underlying26 rfl (by kernel_rfl)) rfl ?_
        obtain ⟨fq, ho, hnw⟩ := tform_ow HTr.out (by decide)
        exact HDr.out.fin (t := .mk 4 0 .empty [] ts) ho (hnw.mono (Nat.le_succ _)) (by rw [Tree.bulk_mk]; simp only [bulkStrs, bulkStr, List.length_nil, ByteArray.size_empty]; have := HTN.out; have := HBK.out; omega) (by have := HTP.out; have := HKX.out; omega)
      · have hn0 : (0 : Int) < ((n + 1 : Nat) : Int) := by omega
        have hts : ts.length ≤ 2 := by omega
        have hm := Nat.mul_le_mul_right TN hts
        have hm2 := Nat.mul_le_mul_right TP hts
        obtain ⟨gk, off, q0, q1, q2, fi, rfl, hgm, hfs, p0, p1, p2, hoy⟩ := kid_cells HDr.out.o2 hlk
        simp only [Nat.zero_mul, Nat.add_zero] at p0 p1 p2
        have hmem : ks[0] ∈ ks := List.getElem_mem hlk
        have hgd : ks[0].good (lv + 1) := Kind.goodS_at HGK.out hlk
        have HOY := hide (show OwC wr.drew ks[0].cells [q0, q1, q2] fi from hoy.below (below_drewN (Below.refl wr.heap.size wr) 1) (fun b hb => Nat.lt_of_lt_of_le (HDr.out.lt.right b (hfs hb)) HDr.out.gr.size))
        have hgk := HDr.out.lt.right gk hgm
        have hgkg : gk ≠ g := fun e => HDr.out.ng (List.mem_append_right _ (e ▸ hgm))
        have HKC := hide (fun (W : World) (hO : OwC W ks[0].cells [q0, q1, q2] fi) (hs : w.heap.size ≤ W.heap.size) (hr : RdD W g L kx) => show Calls Tryz.prog 54 #[.pointer (some ⟨g, 0, none⟩), .agg #[q0, q1, q2]] W (TDraw g L kx ks[0].tn ks[0].tp W) from
          HIH.out ks[0] hmem [q0, q1, q2] fi L kx g (lv + 1) W hO (fun b hb => Nat.lt_of_lt_of_le (HDr.out.lt.right b (hfs hb)) hs) hgd (fun hm => HDr.out.ng (List.mem_append_right _ (hfs hm))) hr (by have := HTP.out; have := HTA.out; have := HKX.out; omega) (by have := HTN.out; have := HTA.out; omega))
        have k2 := HDr.out.K.cell 2
        have kl := HDr.out.K.lt
        rw [hk1] at k2
        clear hoy hfs hgm hmem hgd
        generalize ks[0] = y at *
        have hq0 : Below wr.heap.size wr wr.drew := below_drewN (Below.refl _ _) 1
        have HDa := hide (HDr.out.low hq0 (by have := HTr.out.box.lt; omega))
        have HTa := hide (show TreeAtR wr.drew (w.heap.size + 1 + 1) _ (.slice none 0 0) [] [] (.slice B2 n2 d2) ts us2 fi2 from HTr.out.drewN 1)
        have hS0 : wr.drew.cell? ⟨w.heap.size, 2, none⟩ = some (.slice (some ⟨gk, off, none⟩) 1 c2) ∧ wr.drew.cell? ⟨gk, off, none⟩ = some q0 ∧ wr.drew.cell? ⟨gk, off + 1, none⟩ = some q1 ∧ wr.drew.cell? ⟨gk, off + 2, none⟩ = some q2 := ⟨(hq0.cell (cell_lt k2)).trans k2, (hq0.cell (cell_lt p0)).trans p0, (hq0.cell (cell_lt p1)).trans p1, (hq0.cell (cell_lt p2)).trans p2⟩
        go_wp2_with fail
        refine wp_region_held_drew (S := fun W => W.cell? ⟨w.heap.size, 2, none⟩ = some (.slice (some ⟨gk, off, none⟩) 1 c2) ∧ W.cell? ⟨gk, off, none⟩ = some q0 ∧ W.cell? ⟨gk, off + 1, none⟩ = some q1 ∧ W.cell? ⟨gk, off + 2, none⟩ = some q2) (by kernel_rfl) hS0 (fun _ => ?_)
        clear hq0
        generalize wr.drew = w6 at *
        refine wpAnyH_take (i := 0) (v := .pointer (some ⟨w.heap.size + 1 + 1, 4, none⟩)) rfl (by kernel_rfl) (by kernel_rfl) (by kernel_rfl) (fun _ _ _ h => h) (Or.inl ⟨by kernel_rfl, by (intro W hS; go_simp; first | done | with_reducible rfl | rfl)⟩) hS0 ?_
        (try simp only [Act.put, List.getElem_toArray, List.getElem_cons_zero, List.getElem_cons_succ, List.setIfInBounds_toArray, List.set_cons_zero, List.set_cons_succ])
        refine wpAnyH_take (i := 2) (v := .pointer (some ⟨g, 0, none⟩)) rfl (by kernel_rfl) (by kernel_rfl) (by kernel_rfl) (fun _ _ _ h => h) (Or.inl ⟨by kernel_rfl, by (intro W hS; go_simp; first | done | with_reducible rfl | rfl)⟩) hS0 ?_
        (try simp only [Act.put, List.getElem_toArray, List.getElem_cons_zero, List.getElem_cons_succ, List.setIfInBounds_toArray, List.set_cons_zero, List.set_cons_succ])
        refine wpAnyH_take (i := 3) (v := .pointer (some ⟨w.heap.size, 2, none⟩)) rfl (by kernel_rfl) (by kernel_rfl) (by kernel_rfl) (fun _ _ _ h => h) (Or.inl ⟨by kernel_rfl, by (intro W hS; go_simp; first | done | with_reducible rfl | rfl)⟩) hS0 ?_
        (try simp only [Act.put, List.getElem_toArray, List.getElem_cons_zero, List.getElem_cons_succ, List.setIfInBounds_toArray, List.set_cons_zero, List.set_cons_succ])
        refine wpAnyH_take (i := 4) (v := .slice (some ⟨gk, off, none⟩) 1 c2) rfl (by kernel_rfl) (by kernel_rfl) (by kernel_rfl) (fun _ _ _ h => h) (Or.inl ⟨by kernel_rfl, by (intro W hS; have y := hS.1; have yl := cell_lt y; go_simp; first | done | with_reducible rfl | rfl)⟩) hS0 ?_
        (try simp only [Act.put, List.getElem_toArray, List.getElem_cons_zero, List.getElem_cons_succ, List.setIfInBounds_toArray, List.set_cons_zero, List.set_cons_succ])
        refine wpAnyH_take (i := 5) (v := .pointer (some ⟨gk, off, none⟩)) rfl (by kernel_rfl) (by kernel_rfl) (by kernel_rfl) (fun _ _ _ h => h) (Or.inl ⟨by kernel_rfl, by (intro W hS; go_simp; first | done | with_reducible rfl | rfl)⟩) hS0 ?_
        (try simp only [Act.put, List.getElem_toArray, List.getElem_cons_zero, List.getElem_cons_succ, List.setIfInBounds_toArray, List.set_cons_zero, List.set_cons_succ])
        refine wpAnyH_take (i := 6) (v := .agg #[q0, q1, q2]) rfl (by kernel_rfl) (by kernel_rfl) (by kernel_rfl) (fun _ _ _ h => h) (Or.inl ⟨by kernel_rfl, by (intro W hS; have y := hS.2.1; have yl := cell_lt y; have y1 := hS.2.2.1; have y2 := hS.2.2.2; go_simp; first | done | with_reducible rfl | rfl)⟩) hS0 ?_
        (try simp only [Act.put, List.getElem_toArray, List.getElem_cons_zero, List.getElem_cons_succ, List.setIfInBounds_toArray, List.set_cons_zero, List.set_cons_succ])
        have x0 := HTa.out.box.cell 4
        have xl := HTa.out.box.lt
        refine wpAnyH_ready (rs := [1, 7]) (by kernel_rfl) (by simp) ?_
        refine AllReadyH.cons rfl (fun K hK => ?_) ?_
        · skip
          go_simp
          refine hK.out _ _ hS0 (fun hHeld => ?_)
          clear hK K hHeld
          refine wpAnyH_ready (rs := [7]) (by kernel_rfl) (by simp) ?_
          refine AllReadyH.cons rfl (fun K hK => ?_) AllReadyH.nil
          go_simp
          go_at_call 54
          refine (HKC.out w6 HOY.out HDa.out.gr.size HDa.out.rd).mono ?_
          rintro e w7 ⟨t, us7, fq7, k7, rfl, ho7, hn7, hb7, hk7, hr7, hg7⟩
          obtain ⟨E1, e1, E2, e2, g1, g2, rfl, x0_, x1_, x2_, x3_, x4_, efq⟩ := ho7.oTree
          have hS1 : w7.cell? ⟨w.heap.size, 2, none⟩ = some (.slice (some ⟨gk, off, none⟩) 1 c2) ∧ w7.cell? ⟨gk, off, none⟩ = some q0 ∧ w7.cell? ⟨gk, off + 1, none⟩ = some q1 ∧ w7.cell? ⟨gk, off + 2, none⟩ = some q2 := ⟨cell_grD hg7 (hS0.1) (by omega), cell_grD hg7 (hS0.2.1) hgkg, cell_grD hg7 (hS0.2.2.1) hgkg, cell_grD hg7 (hS0.2.2.2) hgkg⟩
          have HDb := hide (HDa.out.tick hg7 hr7)
          have HTb := hide (HTa.out.farR hg7 (by omega))
          have HO7 := hide ho7
          have HN7 := hide (hn7.mono (show w.heap.size + 1 + 1 + 1 ≤ w6.heap.size from HTa.out.box.lt))
          have HN7w := hide hn7.lt
          have HN7r := hide hn7
          have HN7f := hide hn7.fr
          have HLT7 := hide (show w6.heap.size ≤ w7.heap.size from hg7.size)
          have y0 := HTb.out.box.cell 4
          have yl := HTb.out.box.lt
          clear ho7 hn7 hr7 x3_ x4_ efq
          try go_simp
          refine hK.out _ _ hS1 (fun hHeld => ?_)
          clear hK K hHeld hg7
          refine wpAnyH_ready (rs := [8]) (by kernel_rfl) (by simp) ?_
          refine AllReadyH.cons rfl (fun K hK => ?_) AllReadyH.nil
          have hq1 : Below w7.heap.size w7 (w7.alloc (.cells #[.int .i64 t.sort, .int .i64 t.num, .string t.text, .slice E1 t.names.length e1, .slice E2 t.kids.length e2] 26)) := (Below.refl _ _).alloc (Nat.le_refl _) _
          have hS2 : (w7.alloc (.cells #[.int .i64 t.sort, .int .i64 t.num, .string t.text, .slice E1 t.names.length e1, .slice E2 t.kids.length e2] 26)).cell? ⟨w.heap.size, 2, none⟩ = some (.slice (some ⟨gk, off, none⟩) 1 c2) ∧ (w7.alloc (.cells #[.int .i64 t.sort, .int .i64 t.num, .string t.text, .slice E1 t.names.length e1, .slice E2 t.kids.length e2] 26)).cell? ⟨gk, off, none⟩ = some q0 ∧ (w7.alloc (.cells #[.int .i64 t.sort, .int .i64 t.num, .string t.text, .slice E1 t.names.length e1, .slice E2 t.kids.length e2] 26)).cell? ⟨gk, off + 1, none⟩ = some q1 ∧ (w7.alloc (.cells #[.int .i64 t.sort, .int .i64 t.num, .string t.text, .slice E1 t.names.length e1, .slice E2 t.kids.length e2] 26)).cell? ⟨gk, off + 2, none⟩ = some q2 := ⟨(hq1.cell (cell_lt (hS1.1))).trans (hS1.1), (hq1.cell (cell_lt (hS1.2.1))).trans (hS1.2.1), (hq1.cell (cell_lt (hS1.2.2.1))).trans (hS1.2.2.1), (hq1.cell (cell_lt (hS1.2.2.2))).trans (hS1.2.2.2)⟩
          have HTc := hide (HTb.out.alloc (.cells #[.int .i64 t.sort, .int .i64 t.num, .string t.text, .slice E1 t.names.length e1, .slice E2 t.kids.length e2] 26))
          have hszc : w.heap.size + 1 + 1 + 1 ≤ (w7.alloc (.cells #[.int .i64 t.sort, .int .i64 t.num, .string t.text, .slice E1 t.names.length e1, .slice E2 t.kids.length e2] 26)).heap.size := by have := HTb.out.box.lt; rw [World.size_alloc]; omega
          have HO7c := hide (HO7.out.alloc HN7w.out (.cells #[.int .i64 t.sort, .int .i64 t.num, .string t.text, .slice E1 t.names.length e1, .slice E2 t.kids.length e2] 26))
          have HN7c := hide (HN7.out.alloc (.cells #[.int .i64 t.sort, .int .i64 t.num, .string t.text, .slice E1 t.names.length e1, .slice E2 t.kids.length e2] 26))
          have HN7s := hide (show New (w7.alloc (.cells #[.int .i64 t.sort, .int .i64 t.num, .string t.text, .slice E1 t.names.length e1, .slice E2 t.kids.length e2] 26)) fq7 w6.heap.size from HN7r.out.alloc _)
          go_simp
          refine hK.out _ _ hS2 (fun hHeld => ?_)
          clear hK K hHeld
          refine wpAnyH_ready (rs := [9]) (by kernel_rfl) (by simp) ?_
          refine AllReadyH.cons rfl (fun K hK => ?_) AllReadyH.nil
          refine step_app (by rfl) _ _ 24 (by rfl) ib _ 80 Tryz.underlying24 HIb.out hb0 hb1 hb2 rfl (by decide) Tree.cells_len (by rfl) HTc.out.two [t] (by rw [List.flatMap_singleton]; exact HO7c.out) (New.app HTc.out.two.new HN7s.out (fun g hg => HTa.out.two.new.lt g hg) (by exact HTa.out.box.lt)) (fun g e hm => by (have k1 := HTa.out.two.lt g e); (have k2 := (HN7f.out g hm).1); exact absurd k1 (Nat.not_lt.2 k2)) _ 1 1 (by rfl) rfl (SrcAt.new w7 _ _ _ _) (by omega) (by decide) hszc ?_
          intro A8 n8 c8 w8 hn8 hown8 hgb8
          clear hn8
          have r8 := HTc.out.row2 hgb8
          have x8 := r8.cell 4
          have f8 := r8.frozen 4
          have l8 := r8.lt
          have hS3 : w8.cell? ⟨w.heap.size, 2, none⟩ = some (.slice (some ⟨gk, off, none⟩) 1 c2) ∧ w8.cell? ⟨gk, off, none⟩ = some q0 ∧ w8.cell? ⟨gk, off + 1, none⟩ = some q1 ∧ w8.cell? ⟨gk, off + 2, none⟩ = some q2 := ⟨cell_gbD hgb8 (hS2.1) (HTc.out.two.low (by omega)), cell_gbD hgb8 (hS2.2.1) (HTc.out.two.low (by omega)), cell_gbD hgb8 (hS2.2.2.1) (HTc.out.two.low (by omega)), cell_gbD hgb8 (hS2.2.2.2) (HTc.out.two.low (by omega))⟩
          have hS4 : (w8.setCell ⟨w.heap.size + 1 + 1, 4, none⟩ (.slice A8 n8 c8)).cell? ⟨w.heap.size, 2, none⟩ = some (.slice (some ⟨gk, off, none⟩) 1 c2) ∧ (w8.setCell ⟨w.heap.size + 1 + 1, 4, none⟩ (.slice A8 n8 c8)).cell? ⟨gk, off, none⟩ = some q0 ∧ (w8.setCell ⟨w.heap.size + 1 + 1, 4, none⟩ (.slice A8 n8 c8)).cell? ⟨gk, off + 1, none⟩ = some q1 ∧ (w8.setCell ⟨w.heap.size + 1 + 1, 4, none⟩ (.slice A8 n8 c8)).cell? ⟨gk, off + 2, none⟩ = some q2 := ⟨cell_setD (hS3.1) (by omega), cell_setD (hS3.2.1) (by omega), cell_setD (hS3.2.2.1) (by omega), cell_setD (hS3.2.2.2) (by omega)⟩
          have HTz := hide (show TreeAtR (w8.setCell ⟨w.heap.size + 1 + 1, 4, none⟩ (.slice A8 n8 c8)) (w.heap.size + 1 + 1) _ (.slice none 0 0) [] [] (.slice A8 n8 c8) (ts ++ [t]) (us2 ++ [.int .i64 t.sort, .int .i64 t.num, .string t.text, .slice E1 t.names.length e1, .slice E2 t.kids.length e2]) (fi2 ++ fq7) from HTc.out.put2 hgb8 hown8 4 rfl (fun g hg => by
              rcases List.mem_append.1 hg with hg | hg
              · exact .inl hg
              · exact .inr ⟨fun e => absurd (HTa.out.one.lt g e) (Nat.not_lt.2 (HN7f.out g hg).1), fun h => by cases h⟩))
          have HDz := hide (HDb.out.low (B := w.heap.size + 1 + 1) ((hq1.mono (by omega)).trans (HTc.out.frame2 hgb8 hszc 4 (.slice A8 n8 c8) (Nat.le_refl _))) (Nat.le_refl _))
          refine hK.out _ _ hS3 (fun hHeld => ?_)
          clear hK K hHeld
          refine wpAnyH_take (i := 10) (v := .pointer (some ⟨w.heap.size + 1 + 1, 4, none⟩)) rfl (by kernel_rfl) (by kernel_rfl) (by kernel_rfl) (fun _ _ _ h => h) (Or.inl ⟨by kernel_rfl, by (intro W hS; go_simp; first | done | with_reducible rfl | rfl)⟩) hS3 ?_
          (try simp only [Act.put, List.getElem_toArray, List.getElem_cons_zero, List.getElem_cons_succ, List.setIfInBounds_toArray, List.set_cons_zero, List.set_cons_succ])
          refine wpAnyH_ready (rs := [11]) (by kernel_rfl) (by simp) ?_
          refine AllReadyH.cons rfl (fun K hK => ?_) AllReadyH.nil
          go_simp
          refine hK.out _ _ hS4 (fun hHeld => ?_)
          clear hK K hHeld hS0 hS2 hS3 hS4 x8 f8 l8 r8 hown8 hgb8 hq1
          refine wpAnyH_done (by kernel_rfl) ?_ _
          generalize (World.setCell _ _ _) = wz at HTz HDz ⊢
          clear HTa HDa HTc HTb HDb HO7 HN7 HN7w HN7f HN7r HO7c HN7c HN7s HOY HKC
          have hb1 := HBK.out
          have hk1_ := HKX.out
          have hta := HTA.out
          go_wp2
          go_roundw
          case rel => exact ⟨n, ts ++ [t], A8, n8, c8, _, _, k7, by go_num, HTz.out, HDz.out, by rw [List.length_append]; simp only [List.length_singleton]; omega, by rw [tbulkS_snoc, List.length_append, List.length_singleton, Nat.succ_mul]; omega, by rw [List.length_append, List.length_singleton, Nat.succ_mul]; omega⟩
          case measure => simp [intOf] <;> omega
        · refine AllReadyH.cons rfl (fun K hK => ?_) AllReadyH.nil
          go_simp
          go_at_call 54
          refine (HKC.out w6 HOY.out HDa.out.gr.size HDa.out.rd).mono ?_
          rintro e w7 ⟨t, us7, fq7, k7, rfl, ho7, hn7, hb7, hk7, hr7, hg7⟩
          obtain ⟨E1, e1, E2, e2, g1, g2, rfl, x0_, x1_, x2_, x3_, x4_, efq⟩ := ho7.oTree
          have hS1 : w7.cell? ⟨w.heap.size, 2, none⟩ = some (.slice (some ⟨gk, off, none⟩) 1 c2) ∧ w7.cell? ⟨gk, off, none⟩ = some q0 ∧ w7.cell? ⟨gk, off + 1, none⟩ = some q1 ∧ w7.cell? ⟨gk, off + 2, none⟩ = some q2 := ⟨cell_grD hg7 (hS0.1) (by omega), cell_grD hg7 (hS0.2.1) hgkg, cell_grD hg7 (hS0.2.2.1) hgkg, cell_grD hg7 (hS0.2.2.2) hgkg⟩
          have HDb := hide (HDa.out.tick hg7 hr7)
          have HTb := hide (HTa.out.farR hg7 (by omega))
          have HO7 := hide ho7
          have HN7 := hide (hn7.mono (show w.heap.size + 1 + 1 + 1 ≤ w6.heap.size from HTa.out.box.lt))
          have HN7w := hide hn7.lt
          have HN7r := hide hn7
          have HN7f := hide hn7.fr
          have HLT7 := hide (show w6.heap.size ≤ w7.heap.size from hg7.size)
          have y0 := HTb.out.box.cell 4
          have yl := HTb.out.box.lt
          clear ho7 hn7 hr7 x3_ x4_ efq
          try go_simp
          refine hK.out _ _ hS1 (fun hHeld => ?_)
          clear hK K hHeld hg7
          refine wpAnyH_ready (rs := [1, 8]) (by kernel_rfl) (by simp) ?_
          refine AllReadyH.cons rfl (fun K hK => ?_) ?_
          · skip
            go_simp
            refine hK.out _ _ hS1 (fun hHeld => ?_)
            clear hK K hHeld
            refine wpAnyH_ready (rs := [8]) (by kernel_rfl) (by simp) ?_
            refine AllReadyH.cons rfl (fun K hK => ?_) AllReadyH.nil
            have hq1 : Below w7.heap.size w7 (w7.alloc (.cells #[.int .i64 t.sort, .int .i64 t.num, .string t.text, .slice E1 t.names.length e1, .slice E2 t.kids.length e2] 26)) := (Below.refl _ _).alloc (Nat.le_refl _) _
            have hS2 : (w7.alloc (.cells #[.int .i64 t.sort, .int .i64 t.num, .string t.text, .slice E1 t.names.length e1, .slice E2 t.kids.length e2] 26)).cell? ⟨w.heap.size, 2, none⟩ = some (.slice (some ⟨gk, off, none⟩) 1 c2) ∧ (w7.alloc (.cells #[.int .i64 t.sort, .int .i64 t.num, .string t.text, .slice E1 t.names.length e1, .slice E2 t.kids.length e2] 26)).cell? ⟨gk, off, none⟩ = some q0 ∧ (w7.alloc (.cells #[.int .i64 t.sort, .int .i64 t.num, .string t.text, .slice E1 t.names.length e1, .slice E2 t.kids.length e2] 26)).cell? ⟨gk, off + 1, none⟩ = some q1 ∧ (w7.alloc (.cells #[.int .i64 t.sort, .int .i64 t.num, .string t.text, .slice E1 t.names.length e1, .slice E2 t.kids.length e2] 26)).cell? ⟨gk, off + 2, none⟩ = some q2 := ⟨(hq1.cell (cell_lt (hS1.1))).trans (hS1.1), (hq1.cell (cell_lt (hS1.2.1))).trans (hS1.2.1), (hq1.cell (cell_lt (hS1.2.2.1))).trans (hS1.2.2.1), (hq1.cell (cell_lt (hS1.2.2.2))).trans (hS1.2.2.2)⟩
            have HTc := hide (HTb.out.alloc (.cells #[.int .i64 t.sort, .int .i64 t.num, .string t.text, .slice E1 t.names.length e1, .slice E2 t.kids.length e2] 26))
            have hszc : w.heap.size + 1 + 1 + 1 ≤ (w7.alloc (.cells #[.int .i64 t.sort, .int .i64 t.num, .string t.text, .slice E1 t.names.length e1, .slice E2 t.kids.length e2] 26)).heap.size := by have := HTb.out.box.lt; rw [World.size_alloc]; omega
            have HO7c := hide (HO7.out.alloc HN7w.out (.cells #[.int .i64 t.sort, .int .i64 t.num, .string t.text, .slice E1 t.names.length e1, .slice E2 t.kids.length e2] 26))
            have HN7c := hide (HN7.out.alloc (.cells #[.int .i64 t.sort, .int .i64 t.num, .string t.text, .slice E1 t.names.length e1, .slice E2 t.kids.length e2] 26))
            have HN7s := hide (show New (w7.alloc (.cells #[.int .i64 t.sort, .int .i64 t.num, .string t.text, .slice E1 t.names.length e1, .slice E2 t.kids.length e2] 26)) fq7 w6.heap.size from HN7r.out.alloc _)
            go_simp
            refine hK.out _ _ hS2 (fun hHeld => ?_)
            clear hK K hHeld
            refine wpAnyH_ready (rs := [9]) (by kernel_rfl) (by simp) ?_
            refine AllReadyH.cons rfl (fun K hK => ?_) AllReadyH.nil
            refine step_app (by rfl) _ _ 24 (by rfl) ib _ 80 Tryz.underlying24 HIb.out hb0 hb1 hb2 rfl (by decide) Tree.cells_len (by rfl) HTc.out.two [t] (by rw [List.flatMap_singleton]; exact HO7c.out) (New.app HTc.out.two.new HN7s.out (fun g hg => HTa.out.two.new.lt g hg) (by exact HTa.out.box.lt)) (fun g e hm => by (have k1 := HTa.out.two.lt g e); (have k2 := (HN7f.out g hm).1); exact absurd k1 (Nat.not_lt.2 k2)) _ 1 1 (by rfl) rfl (SrcAt.new w7 _ _ _ _) (by omega) (by decide) hszc ?_
            intro A8 n8 c8 w8 hn8 hown8 hgb8
            clear hn8
            have r8 := HTc.out.row2 hgb8
            have x8 := r8.cell 4
            have f8 := r8.frozen 4
            have l8 := r8.lt
            have hS3 : w8.cell? ⟨w.heap.size, 2, none⟩ = some (.slice (some ⟨gk, off, none⟩) 1 c2) ∧ w8.cell? ⟨gk, off, none⟩ = some q0 ∧ w8.cell? ⟨gk, off + 1, none⟩ = some q1 ∧ w8.cell? ⟨gk, off + 2, none⟩ = some q2 := ⟨cell_gbD hgb8 (hS2.1) (HTc.out.two.low (by omega)), cell_gbD hgb8 (hS2.2.1) (HTc.out.two.low (by omega)), cell_gbD hgb8 (hS2.2.2.1) (HTc.out.two.low (by omega)), cell_gbD hgb8 (hS2.2.2.2) (HTc.out.two.low (by omega))⟩
            have hS4 : (w8.setCell ⟨w.heap.size + 1 + 1, 4, none⟩ (.slice A8 n8 c8)).cell? ⟨w.heap.size, 2, none⟩ = some (.slice (some ⟨gk, off, none⟩) 1 c2) ∧ (w8.setCell ⟨w.heap.size + 1 + 1, 4, none⟩ (.slice A8 n8 c8)).cell? ⟨gk, off, none⟩ = some q0 ∧ (w8.setCell ⟨w.heap.size + 1 + 1, 4, none⟩ (.slice A8 n8 c8)).cell? ⟨gk, off + 1, none⟩ = some q1 ∧ (w8.setCell ⟨w.heap.size + 1 + 1, 4, none⟩ (.slice A8 n8 c8)).cell? ⟨gk, off + 2, none⟩ = some q2 := ⟨cell_setD (hS3.1) (by omega), cell_setD (hS3.2.1) (by omega), cell_setD (hS3.2.2.1) (by omega), cell_setD (hS3.2.2.2) (by omega)⟩
            have HTz := hide (show TreeAtR (w8.setCell ⟨w.heap.size + 1 + 1, 4, none⟩ (.slice A8 n8 c8)) (w.heap.size + 1 + 1) _ (.slice none 0 0) [] [] (.slice A8 n8 c8) (ts ++ [t]) (us2 ++ [.int .i64 t.sort, .int .i64 t.num, .string t.text, .slice E1 t.names.length e1, .slice E2 t.kids.length e2]) (fi2 ++ fq7) from HTc.out.put2 hgb8 hown8 4 rfl (fun g hg => by
                rcases List.mem_append.1 hg with hg | hg
                · exact .inl hg
                · exact .inr ⟨fun e => absurd (HTa.out.one.lt g e) (Nat.not_lt.2 (HN7f.out g hg).1), fun h => by cases h⟩))
            have HDz := hide (HDb.out.low (B := w.heap.size + 1 + 1) ((hq1.mono (by omega)).trans (HTc.out.frame2 hgb8 hszc 4 (.slice A8 n8 c8) (Nat.le_refl _))) (Nat.le_refl _))
            refine hK.out _ _ hS3 (fun hHeld => ?_)
            clear hK K hHeld
            refine wpAnyH_take (i := 10) (v := .pointer (some ⟨w.heap.size + 1 + 1, 4, none⟩)) rfl (by kernel_rfl) (by kernel_rfl) (by kernel_rfl) (fun _ _ _ h => h) (Or.inl ⟨by kernel_rfl, by (intro W hS; go_simp; first | done | with_reducible rfl | rfl)⟩) hS3 ?_
            (try simp only [Act.put, List.getElem_toArray, List.getElem_cons_zero, List.getElem_cons_succ, List.setIfInBounds_toArray, List.set_cons_zero, List.set_cons_succ])
            refine wpAnyH_ready (rs := [11]) (by kernel_rfl) (by simp) ?_
            refine AllReadyH.cons rfl (fun K hK => ?_) AllReadyH.nil
            go_simp
            refine hK.out _ _ hS4 (fun hHeld => ?_)
            clear hK K hHeld hS0 hS2 hS3 hS4 x8 f8 l8 r8 hown8 hgb8 hq1
            refine wpAnyH_done (by kernel_rfl) ?_ _
            generalize (World.setCell _ _ _) = wz at HTz HDz ⊢
            clear HTa HDa HTc HTb HDb HO7 HN7 HN7w HN7f HN7r HO7c HN7c HN7s HOY HKC
            have hb1 := HBK.out
            have hk1_ := HKX.out
            have hta := HTA.out
            go_wp2
            go_roundw
            case rel => exact ⟨n, ts ++ [t], A8, n8, c8, _, _, k7, by go_num, HTz.out, HDz.out, by rw [List.length_append]; simp only [List.length_singleton]; omega, by rw [tbulkS_snoc, List.length_append, List.length_singleton, Nat.succ_mul]; omega, by rw [List.length_append, List.length_singleton, Nat.succ_mul]; omega⟩
            case measure => simp [intOf] <;> omega
          · refine AllReadyH.cons rfl (fun K hK => ?_) AllReadyH.nil
            have hq1 : Below w7.heap.size w7 (w7.alloc (.cells #[.int .i64 t.sort, .int .i64 t.num, .string t.text, .slice E1 t.names.length e1, .slice E2 t.kids.length e2] 26)) := (Below.refl _ _).alloc (Nat.le_refl _) _
            have hS2 : (w7.alloc (.cells #[.int .i64 t.sort, .int .i64 t.num, .string t.text, .slice E1 t.names.length e1, .slice E2 t.kids.length e2] 26)).cell? ⟨w.heap.size, 2, none⟩ = some (.slice (some ⟨gk, off, none⟩) 1 c2) ∧ (w7.alloc (.cells #[.int .i64 t.sort, .int .i64 t.num, .string t.text, .slice E1 t.names.length e1, .slice E2 t.kids.length e2] 26)).cell? ⟨gk, off, none⟩ = some q0 ∧ (w7.alloc (.cells #[.int .i64 t.sort, .int .i64 t.num, .string t.text, .slice E1 t.names.length e1, .slice E2 t.kids.length e2] 26)).cell? ⟨gk, off + 1, none⟩ = some q1 ∧ (w7.alloc (.cells #[.int .i64 t.sort, .int .i64 t.num, .string t.text, .slice E1 t.names.length e1, .slice E2 t.kids.length e2] 26)).cell? ⟨gk, off + 2, none⟩ = some q2 := ⟨(hq1.cell (cell_lt (hS1.1))).trans (hS1.1), (hq1.cell (cell_lt (hS1.2.1))).trans (hS1.2.1), (hq1.cell (cell_lt (hS1.2.2.1))).trans (hS1.2.2.1), (hq1.cell (cell_lt (hS1.2.2.2))).trans (hS1.2.2.2)⟩
            have HTc := hide (HTb.out.alloc (.cells #[.int .i64 t.sort, .int .i64 t.num, .string t.text, .slice E1 t.names.length e1, .slice E2 t.kids.length e2] 26))
            have hszc : w.heap.size + 1 + 1 + 1 ≤ (w7.alloc (.cells #[.int .i64 t.sort, .int .i64 t.num, .string t.text, .slice E1 t.names.length e1, .slice E2 t.kids.length e2] 26)).heap.size := by have := HTb.out.box.lt; rw [World.size_alloc]; omega
            have HO7c := hide (HO7.out.alloc HN7w.out (.cells #[.int .i64 t.sort, .int .i64 t.num, .string t.text, .slice E1 t.names.length e1, .slice E2 t.kids.length e2] 26))
            have HN7c := hide (HN7.out.alloc (.cells #[.int .i64 t.sort, .int .i64 t.num, .string t.text, .slice E1 t.names.length e1, .slice E2 t.kids.length e2] 26))
            have HN7s := hide (show New (w7.alloc (.cells #[.int .i64 t.sort, .int .i64 t.num, .string t.text, .slice E1 t.names.length e1, .slice E2 t.kids.length e2] 26)) fq7 w6.heap.size from HN7r.out.alloc _)
            go_simp
            refine hK.out _ _ hS2 (fun hHeld => ?_)
            clear hK K hHeld
            have u0 := HTc.out.box.cell 4
            have ul := HTc.out.box.lt
            refine wpAnyH_ready (rs := [1]) (by kernel_rfl) (by simp) ?_
            refine AllReadyH.cons rfl (fun K hK => ?_) AllReadyH.nil
            go_simp
            refine hK.out _ _ hS2 (fun hHeld => ?_)
            clear hK K hHeld
            clear u0 ul
            refine wpAnyH_ready (rs := [9]) (by kernel_rfl) (by simp) ?_
            refine AllReadyH.cons rfl (fun K hK => ?_) AllReadyH.nil
            refine step_app (by rfl) _ _ 24 (by rfl) ib _ 80 Tryz.underlying24 HIb.out hb0 hb1 hb2 rfl (by decide) Tree.cells_len (by rfl) HTc.out.two [t] (by rw [List.flatMap_singleton]; exact HO7c.out) (New.app HTc.out.two.new HN7s.out (fun g hg => HTa.out.two.new.lt g hg) (by exact HTa.out.box.lt)) (fun g e hm => by (have k1 := HTa.out.two.lt g e); (have k2 := (HN7f.out g hm).1); exact absurd k1 (Nat.not_lt.2 k2)) _ 1 1 (by rfl) rfl (SrcAt.new w7 _ _ _ _) (by omega) (by decide) hszc ?_
            intro A8 n8 c8 w8 hn8 hown8 hgb8
            clear hn8
            have r8 := HTc.out.row2 hgb8
            have x8 := r8.cell 4
            have f8 := r8.frozen 4
            have l8 := r8.lt
            have hS3 : w8.cell? ⟨w.heap.size, 2, none⟩ = some (.slice (some ⟨gk, off, none⟩) 1 c2) ∧ w8.cell? ⟨gk, off, none⟩ = some q0 ∧ w8.cell? ⟨gk, off + 1, none⟩ = some q1 ∧ w8.cell? ⟨gk, off + 2, none⟩ = some q2 := ⟨cell_gbD hgb8 (hS2.1) (HTc.out.two.low (by omega)), cell_gbD hgb8 (hS2.2.1) (HTc.out.two.low (by omega)), cell_gbD hgb8 (hS2.2.2.1) (HTc.out.two.low (by omega)), cell_gbD hgb8 (hS2.2.2.2) (HTc.out.two.low (by omega))⟩
            have hS4 : (w8.setCell ⟨w.heap.size + 1 + 1, 4, none⟩ (.slice A8 n8 c8)).cell? ⟨w.heap.size, 2, none⟩ = some (.slice (some ⟨gk, off, none⟩) 1 c2) ∧ (w8.setCell ⟨w.heap.size + 1 + 1, 4, none⟩ (.slice A8 n8 c8)).cell? ⟨gk, off, none⟩ = some q0 ∧ (w8.setCell ⟨w.heap.size + 1 + 1, 4, none⟩ (.slice A8 n8 c8)).cell? ⟨gk, off + 1, none⟩ = some q1 ∧ (w8.setCell ⟨w.heap.size + 1 + 1, 4, none⟩ (.slice A8 n8 c8)).cell? ⟨gk, off + 2, none⟩ = some q2 := ⟨cell_setD (hS3.1) (by omega), cell_setD (hS3.2.1) (by omega), cell_setD (hS3.2.2.1) (by omega), cell_setD (hS3.2.2.2) (by omega)⟩
            have HTz := hide (show TreeAtR (w8.setCell ⟨w.heap.size + 1 + 1, 4, none⟩ (.slice A8 n8 c8)) (w.heap.size + 1 + 1) _ (.slice none 0 0) [] [] (.slice A8 n8 c8) (ts ++ [t]) (us2 ++ [.int .i64 t.sort, .int .i64 t.num, .string t.text, .slice E1 t.names.length e1, .slice E2 t.kids.length e2]) (fi2 ++ fq7) from HTc.out.put2 hgb8 hown8 4 rfl (fun g hg => by
                rcases List.mem_append.1 hg with hg | hg
                · exact .inl hg
                · exact .inr ⟨fun e => absurd (HTa.out.one.lt g e) (Nat.not_lt.2 (HN7f.out g hg).1), fun h => by cases h⟩))
            have HDz := hide (HDb.out.low (B := w.heap.size + 1 + 1) ((hq1.mono (by omega)).trans (HTc.out.frame2 hgb8 hszc 4 (.slice A8 n8 c8) (Nat.le_refl _))) (Nat.le_refl _))
            refine hK.out _ _ hS3 (fun hHeld => ?_)
            clear hK K hHeld
            refine wpAnyH_take (i := 10) (v := .pointer (some ⟨w.heap.size + 1 + 1, 4, none⟩)) rfl (by kernel_rfl) (by kernel_rfl) (by kernel_rfl) (fun _ _ _ h => h) (Or.inl ⟨by kernel_rfl, by (intro W hS; go_simp; first | done | with_reducible rfl | rfl)⟩) hS3 ?_
            (try simp only [Act.put, List.getElem_toArray, List.getElem_cons_zero, List.getElem_cons_succ, List.setIfInBounds_toArray, List.set_cons_zero, List.set_cons_succ])
            refine wpAnyH_ready (rs := [11]) (by kernel_rfl) (by simp) ?_
            refine AllReadyH.cons rfl (fun K hK => ?_) AllReadyH.nil
            go_simp
            refine hK.out _ _ hS4 (fun hHeld => ?_)
            clear hK K hHeld hS0 hS2 hS3 hS4 x8 f8 l8 r8 hown8 hgb8 hq1
            refine wpAnyH_done (by kernel_rfl) ?_ _
            generalize (World.setCell _ _ _) = wz at HTz HDz ⊢
            clear HTa HDa HTc HTb HDb HO7 HN7 HN7w HN7f HN7r HO7c HN7c HN7s HOY HKC
            have hb1 := HBK.out
            have hk1_ := HKX.out
            have hta := HTA.out
            go_wp2
            go_roundw
            case rel => exact ⟨n, ts ++ [t], A8, n8, c8, _, _, k7, by go_num, HTz.out, HDz.out, by rw [List.length_append]; simp only [List.length_singleton]; omega, by rw [tbulkS_snoc, List.length_append, List.length_singleton, Nat.succ_mul]; omega, by rw [List.length_append, List.length_singleton, Nat.succ_mul]; omega⟩
            case measure => simp [intOf] <;> omega
  · obtain ⟨ia, hia, ha0, ha1, ha2⟩ := info_parts info_strR
    obtain ⟨ib, hib, hb0, hb1, hb2⟩ := info_parts info_TreeR
    have HIa := hide hia
    have HIb := hide hib
    have HT5 := hide (show TreeAtR w1 (w.heap.size + 1 + 1) 5 (.slice none 0 0) [] [] (.slice none 0 0) [] [] [] from ⟨HT.out, OwS.nil _ _ _ _ _, OwS.nil _ _ _ _ _, Nat.lt_succ_self _, fun g h => (by cases h), fun g h => (by cases h), fun g h => (by cases h), fun g h => (by cases h)⟩)
    have HK1 := hide hk1
    clear hia hib HT
    go_wp2_with fail
    clear k0 k1 k2 kl
    go_loopw [7] (fun iv wr => ∃ (j : Nat) (ts : List Tree) (B1 : Option Addr) (n1 d1 : Nat) (us1 : List Value) (B2 : Option Addr) (n2 d2 : Nat) (us2 : List Value) (fi2 : List Nat) (kx : Nat), iv = .int .i64 (j : Int) ∧ TreeAtR wr (w.heap.size + 1 + 1) 5 (.slice B1 n1 d1) (ns.take j) us1 (.slice B2 n2 d2) ts us2 fi2 ∧ TrD 5 ns ks A1 c1 A2 c2 f1 f2 g L w wr kx ∧ j ≤ ks.length ∧ ts.length = j ∧ Tree.bulkS ts ≤ Kind.tnS (ks.take j) ∧ kx ≤ k + Kind.tpS (ks.take j)) (fun iv _ => ks.length - (intOf iv).toNat)
    case atStart => exact ⟨0, [], none, 0, 0, [], none, 0, 0, [], [], k, rfl, HT5.out, HD.out, Nat.zero_le _, rfl, Nat.zero_le _, Nat.le_add_right _ _⟩
    case round =>
      obtain ⟨j, ts, B1, n1, d1, us1, B2, n2, d2, us2, fi2, kx, rfl, hT, hD, hjk, htl, hbk, hkx⟩ := hrel
      have HTr := hide hT
      have HDr := hide hD
      have HTL := hide htl
      have HBK := hide hbk
      have HKX := hide hkx
      clear hT hD hbk hkx htl HD HT5
      have k1 := HDr.out.K.cell 1
      have k2 := HDr.out.K.cell 2
      have kl := HDr.out.K.lt
      rw [hk1] at k1
      by_cases hj : j < ks.length
      rotate_left
      · have hji : ¬ ((j : Int) < (ks.length : Int)) := by omega
        obtain rfl : j = ks.length := by omega
        have etk : ns.take ks.length = ns := List.take_of_length_le (by have := HK1.out; omega)
        have etn : ks.take ks.length = ks := List.take_of_length_le (Nat.le_refl _)
        have HTe := hide (show TreeAtR wr (w.heap.size + 1 + 1) 5 (.slice B1 n1 d1) ns us1 (.slice B2 n2 d2) ts us2 fi2 from by have h := HTr.out; rw [etk] at h; exact h)
        have hbe : Tree.bulkS ts ≤ Kind.tnS ks := by have h := HBK.out; rw [etn] at h; exact h
        have hke : kx ≤ k + Kind.tpS ks := by have h := HKX.out; rw [etn] at h; exact h
        have HBE := hide hbe
        have HKE := hide hke
        have HTX := hide HTe.out.box
        clear etk etn hbe hke k1 k2 kl hjk
        have q0 := HTX.out.cell 0
        have q1 := HTX.out.cell 1
        have q2 := HTX.out.cell 2
        have q3 := HTX.out.cell 3
        have q4 := HTX.out.cell 4
        have z0 := HDr.out.Z.cell 0
        have zf0 := HDr.out.Z.frozen 0
        have z1 := HDr.out.Z.cell 1
        have zf1 := HDr.out.Z.frozen 1
        have z2 := HDr.out.Z.cell 2
        have zf2 := HDr.out.Z.frozen 2
        have z3 := HDr.out.Z.cell 3
        have zf3 := HDr.out.Z.frozen 3
        have z4 := HDr.out.Z.cell 4
        have zf4 := HDr.out.Z.frozen 4
        have lq := HTX.out.lt
        have lz := HDr.out.Z.lt
        have k1 := HDr.out.K.cell 1
        rw [HK1.out] at k1
        have kl := HDr.out.K.lt
        go_wp2
        refine bodyPost_ret (ret_row rfl _ _ (w.heap.size + 1) 26 (treeMkR 5 (.slice B1 n1 d1) (.slice B2 n2 d2)) (HDr.out.Z.setAll (treeMkR 5 (.slice B1 n1 d1) (.slice B2 n2 d2)) rfl) _ rfl Tryz.underlying26 rfl (by kernel_rfl)) rfl ?_
        obtain ⟨fq, ho, hnw⟩ := tform_ow HTe.out (by decide)
        exact HDr.out.fin (t := .mk 5 0 .empty ns ts) ho (hnw.mono (Nat.le_succ _)) (by rw [Tree.bulk_mk]; simp only [ByteArray.size_empty]; have := HTN.out; have := HBE.out; have := HTL.out; omega) (by have := HTP.out; have := HKE.out; omega)
      · have hji : (j : Int) < (ks.length : Int) := by omega
        have hjn : j < ns.length := by have := HK1.out; omega
        obtain ⟨x, hx⟩ : ∃ x, ns[j] = x := ⟨_, rfl⟩
        have HTK := hide (show ns.take (j + 1) = ns.take j ++ [x] from by rw [← hx]; exact List.take_succ_eq_append_getElem hjn)
        have HX := hide hx
        have HJN := hide hjn
        clear hx hk1
        go_upto_region 21 with fail
        go_cut [] from 69 to 79 (fun wx => ∃ (C1 : Option Addr) (m1 e1 : Nat) (us1' : List Value), TreeAtR wx (w.heap.size + 1 + 1) 5 (.slice C1 m1 e1) (ns.take j ++ [x]) us1' (.slice B2 n2 d2) ts us2 fi2 ∧ TrD 5 ns ks A1 c1 A2 c2 f1 f2 g L w wx kx)
        case first =>
          obtain ⟨gm, om, rfl, hgm, pn, hxs⟩ := name_cell HDr.out.o1 HJN.out
          rw [HX.out] at pn hxs
          have hgk := HDr.out.lt.left gm hgm
          have hgkg : gm ≠ g := fun e => HDr.out.ng (List.mem_append_left _ (e ▸ hgm))
          have HDS := hide (fun W => show OwC W ([x].flatMap strC) [.string x] [] from ⟨[], [], ⟨rfl, hxs, rfl⟩, rfl, rfl⟩)
          have hjk3 : j ≤ 1000000 := by have := HTN.out; omega
          have htl3 : (ns.take j).length ≤ 1000000 := by rw [List.length_take]; omega
          clear hgm hxs
          have hq0 : Below wr.heap.size wr wr.drew := below_drewN (Below.refl _ _) 1
          have HDa := hide (HDr.out.low hq0 (by have := HTr.out.box.lt; omega))
          have HTa := hide (show TreeAtR wr.drew (w.heap.size + 1 + 1) _ (.slice B1 n1 d1) (ns.take j) us1 (.slice B2 n2 d2) ts us2 fi2 from HTr.out.drewN 1)
          have hS0 : wr.drew.cell? ⟨w.heap.size, 1, none⟩ = some (.slice (some ⟨gm, om, none⟩) ks.length c1) ∧ wr.drew.cell? ⟨gm, om + j, none⟩ = some (.string x) := ⟨(hq0.cell (cell_lt k1)).trans k1, (hq0.cell (cell_lt pn)).trans pn⟩
          go_wp2_with fail
          refine wp_region_held_drew (S := fun W => W.cell? ⟨w.heap.size, 1, none⟩ = some (.slice (some ⟨gm, om, none⟩) ks.length c1) ∧ W.cell? ⟨gm, om + j, none⟩ = some (.string x)) (by kernel_rfl) hS0 (fun _ => ?_)
          clear hq0
          generalize wr.drew = w6 at *
          refine wpAnyH_take (i := 0) (v := .pointer (some ⟨w.heap.size + 1 + 1, 3, none⟩)) rfl (by kernel_rfl) (by kernel_rfl) (by kernel_rfl) (fun _ _ _ h => h) (Or.inl ⟨by kernel_rfl, by (intro W hS; go_simp; first | done | with_reducible rfl | rfl)⟩) hS0 ?_
          (try simp only [Act.put, List.getElem_toArray, List.getElem_cons_zero, List.getElem_cons_succ, List.setIfInBounds_toArray, List.set_cons_zero, List.set_cons_succ])
          refine wpAnyH_take (i := 2) (v := .pointer (some ⟨w.heap.size, 1, none⟩)) rfl (by kernel_rfl) (by kernel_rfl) (by kernel_rfl) (fun _ _ _ h => h) (Or.inl ⟨by kernel_rfl, by (intro W hS; go_simp; first | done | with_reducible rfl | rfl)⟩) hS0 ?_
          (try simp only [Act.put, List.getElem_toArray, List.getElem_cons_zero, List.getElem_cons_succ, List.setIfInBounds_toArray, List.set_cons_zero, List.set_cons_succ])
          refine wpAnyH_take (i := 3) (v := .slice (some ⟨gm, om, none⟩) ks.length c1) rfl (by kernel_rfl) (by kernel_rfl) (by kernel_rfl) (fun _ _ _ h => h) (Or.inl ⟨by kernel_rfl, by (intro W hS; have y := hS.1; have yl := cell_lt y; go_simp; first | done | with_reducible rfl | rfl)⟩) hS0 ?_
          (try simp only [Act.put, List.getElem_toArray, List.getElem_cons_zero, List.getElem_cons_succ, List.setIfInBounds_toArray, List.set_cons_zero, List.set_cons_succ])
          refine wpAnyH_take (i := 4) (v := .int .i64 (j : Int)) rfl (by kernel_rfl) (by kernel_rfl) (by kernel_rfl) (fun _ _ _ h => h) (Or.inl ⟨by kernel_rfl, by (intro W hS; go_simp; first | done | with_reducible rfl | rfl)⟩) hS0 ?_
          (try simp only [Act.put, List.getElem_toArray, List.getElem_cons_zero, List.getElem_cons_succ, List.setIfInBounds_toArray, List.set_cons_zero, List.set_cons_succ])
          refine wpAnyH_take (i := 5) (v := .pointer (some ⟨gm, om + j, none⟩)) rfl (by kernel_rfl) (by kernel_rfl) (by kernel_rfl) (fun _ _ _ h => h) (Or.inl ⟨by kernel_rfl, by (intro W hS; go_simp; first | done | with_reducible rfl | rfl)⟩) hS0 ?_
          (try simp only [Act.put, List.getElem_toArray, List.getElem_cons_zero, List.getElem_cons_succ, List.setIfInBounds_toArray, List.set_cons_zero, List.set_cons_succ])
          refine wpAnyH_take (i := 6) (v := .string x) rfl (by kernel_rfl) (by kernel_rfl) (by kernel_rfl) (fun _ _ _ h => h) (Or.inl ⟨by kernel_rfl, by (intro W hS; have y := hS.2; have yl := cell_lt y; go_simp; first | done | with_reducible rfl | rfl)⟩) hS0 ?_
          (try simp only [Act.put, List.getElem_toArray, List.getElem_cons_zero, List.getElem_cons_succ, List.setIfInBounds_toArray, List.set_cons_zero, List.set_cons_succ])
          have x0 := HTa.out.box.cell 3
          have xl := HTa.out.box.lt
          refine wpAnyH_ready (rs := [1, 7]) (by kernel_rfl) (by simp) ?_
          refine AllReadyH.cons rfl (fun K hK => ?_) ?_
          · skip
            go_simp
            refine hK.out _ _ hS0 (fun hHeld => ?_)
            clear hK K hHeld
            refine wpAnyH_ready (rs := [7]) (by kernel_rfl) (by simp) ?_
            refine AllReadyH.cons rfl (fun K hK => ?_) AllReadyH.nil
            have hq1 : Below w6.heap.size w6 (w6.alloc (.cells #[.string x] 9)) := (Below.refl _ _).alloc (Nat.le_refl _) _
            have hS2 : (w6.alloc (.cells #[.string x] 9)).cell? ⟨w.heap.size, 1, none⟩ = some (.slice (some ⟨gm, om, none⟩) ks.length c1) ∧ (w6.alloc (.cells #[.string x] 9)).cell? ⟨gm, om + j, none⟩ = some (.string x) := ⟨(hq1.cell (cell_lt (hS0.1))).trans (hS0.1), (hq1.cell (cell_lt (hS0.2))).trans (hS0.2)⟩
            have HTc := hide (HTa.out.alloc (.cells #[.string x] 9))
            have hszc : w.heap.size + 1 + 1 + 1 ≤ (w6.alloc (.cells #[.string x] 9)).heap.size := by have := HTa.out.box.lt; rw [World.size_alloc]; omega
            go_simp
            refine hK.out _ _ hS2 (fun hHeld => ?_)
            clear hK K hHeld
            refine wpAnyH_ready (rs := [8]) (by kernel_rfl) (by simp) ?_
            refine AllReadyH.cons rfl (fun K hK => ?_) AllReadyH.nil
            refine step_app (by rfl) _ _ 23 (by rfl) ia _ 16 Tryz.underlying23 HIa.out ha0 ha1 ha2 rfl (by decide) strC_len (by rfl) HTc.out.one [x] (HDS.out _) (by exact New.nil _ _) (fun g _ hg => by cases hg) _ 1 1 (by rfl) rfl (SrcAt.new w6 _ _ _ _) (by omega) (by decide) hszc ?_
            intro A8 n8 c8 w8 hn8 hown8 hgb8
            clear hn8
            have r8 := HTc.out.row1 hgb8
            have x8 := r8.cell 3
            have f8 := r8.frozen 3
            have l8 := r8.lt
            have hS3 : w8.cell? ⟨w.heap.size, 1, none⟩ = some (.slice (some ⟨gm, om, none⟩) ks.length c1) ∧ w8.cell? ⟨gm, om + j, none⟩ = some (.string x) := ⟨cell_gbD hgb8 (hS2.1) (HTc.out.one.low (by omega)), cell_gbD hgb8 (hS2.2) (HTc.out.one.low (by omega))⟩
            have hS4 : (w8.setCell ⟨w.heap.size + 1 + 1, 3, none⟩ (.slice A8 n8 c8)).cell? ⟨w.heap.size, 1, none⟩ = some (.slice (some ⟨gm, om, none⟩) ks.length c1) ∧ (w8.setCell ⟨w.heap.size + 1 + 1, 3, none⟩ (.slice A8 n8 c8)).cell? ⟨gm, om + j, none⟩ = some (.string x) := ⟨cell_setD (hS3.1) (by omega), cell_setD (hS3.2) (by omega)⟩
            have HTz := hide (show TreeAtR (w8.setCell ⟨w.heap.size + 1 + 1, 3, none⟩ (.slice A8 n8 c8)) (w.heap.size + 1 + 1) _ (.slice A8 n8 c8) ((ns.take j) ++ [x]) (us1 ++ [.string x]) (.slice B2 n2 d2) ts us2 fi2 from HTc.out.put1 hgb8 hown8 3 rfl (fun g hg => by cases hg))
            have HDz := hide (HDa.out.low (B := w.heap.size + 1 + 1) ((hq1.mono (by omega)).trans (HTc.out.frame1 hgb8 hszc 3 (.slice A8 n8 c8) (Nat.le_refl _))) (Nat.le_refl _))
            refine hK.out _ _ hS3 (fun hHeld => ?_)
            clear hK K hHeld
            refine wpAnyH_take (i := 9) (v := .pointer (some ⟨w.heap.size + 1 + 1, 3, none⟩)) rfl (by kernel_rfl) (by kernel_rfl) (by kernel_rfl) (fun _ _ _ h => h) (Or.inl ⟨by kernel_rfl, by (intro W hS; go_simp; first | done | with_reducible rfl | rfl)⟩) hS3 ?_
            (try simp only [Act.put, List.getElem_toArray, List.getElem_cons_zero, List.getElem_cons_succ, List.setIfInBounds_toArray, List.set_cons_zero, List.set_cons_succ])
            refine wpAnyH_ready (rs := [10]) (by kernel_rfl) (by simp) ?_
            refine AllReadyH.cons rfl (fun K hK => ?_) AllReadyH.nil
            go_simp
            refine hK.out _ _ hS4 (fun hHeld => ?_)
            clear hK K hHeld hS0 hS2 hS3 hS4 x8 f8 l8 r8 hown8 hgb8 hq1
            refine wpAnyH_done (by kernel_rfl) ?_ _
            generalize (World.setCell _ _ _) = wz at HTz HDz ⊢
            go_wp2_with fail
            go_meet
            exact ⟨A8, n8, c8, _, HTz.out, HDz.out⟩
          · refine AllReadyH.cons rfl (fun K hK => ?_) AllReadyH.nil
            have hq1 : Below w6.heap.size w6 (w6.alloc (.cells #[.string x] 9)) := (Below.refl _ _).alloc (Nat.le_refl _) _
            have hS2 : (w6.alloc (.cells #[.string x] 9)).cell? ⟨w.heap.size, 1, none⟩ = some (.slice (some ⟨gm, om, none⟩) ks.length c1) ∧ (w6.alloc (.cells #[.string x] 9)).cell? ⟨gm, om + j, none⟩ = some (.string x) := ⟨(hq1.cell (cell_lt (hS0.1))).trans (hS0.1), (hq1.cell (cell_lt (hS0.2))).trans (hS0.2)⟩
            have HTc := hide (HTa.out.alloc (.cells #[.string x] 9))
            have hszc : w.heap.size + 1 + 1 + 1 ≤ (w6.alloc (.cells #[.string x] 9)).heap.size := by have := HTa.out.box.lt; rw [World.size_alloc]; omega
            go_simp
            refine hK.out _ _ hS2 (fun hHeld => ?_)
            clear hK K hHeld
            have y0 := HTc.out.box.cell 3
            have yl := HTc.out.box.lt
            refine wpAnyH_ready (rs := [1]) (by kernel_rfl) (by simp) ?_
            refine AllReadyH.cons rfl (fun K hK => ?_) AllReadyH.nil
            go_simp
            refine hK.out _ _ hS2 (fun hHeld => ?_)
            clear hK K hHeld
            clear y0 yl
            refine wpAnyH_ready (rs := [8]) (by kernel_rfl) (by simp) ?_
            refine AllReadyH.cons rfl (fun K hK => ?_) AllReadyH.nil
            refine step_app (by rfl) _ _ 23 (by rfl) ia _ 16 Tryz.underlying23 HIa.out ha0 ha1 ha2 rfl (by decide) strC_len (by rfl) HTc.out.one [x] (HDS.out _) (by exact New.nil _ _) (fun g _ hg => by cases hg) _ 1 1 (by rfl) rfl (SrcAt.new w6 _ _ _ _) (by omega) (by decide) hszc ?_
            intro A8 n8 c8 w8 hn8 hown8 hgb8
            clear hn8
            have r8 := HTc.out.row1 hgb8
            have x8 := r8.cell 3
            have f8 := r8.frozen 3
            have l8 := r8.lt
            have hS3 : w8.cell? ⟨w.heap.size, 1, none⟩ = some (.slice (some ⟨gm, om, none⟩) ks.length c1) ∧ w8.cell? ⟨gm, om + j, none⟩ = some (.string x) := ⟨cell_gbD hgb8 (hS2.1) (HTc.out.one.low (by omega)), cell_gbD hgb8 (hS2.2) (HTc.out.one.low (by omega))⟩
            have hS4 : (w8.setCell ⟨w.heap.size + 1 + 1, 3, none⟩ (.slice A8 n8 c8)).cell? ⟨w.heap.size, 1, none⟩ = some (.slice (some ⟨gm, om, none⟩) ks.length c1) ∧ (w8.setCell ⟨w.heap.size + 1 + 1, 3, none⟩ (.slice A8 n8 c8)).cell? ⟨gm, om + j, none⟩ = some (.string x) := ⟨cell_setD (hS3.1) (by omega), cell_setD (hS3.2) (by omega)⟩
            have HTz := hide (show TreeAtR (w8.setCell ⟨w.heap.size + 1 + 1, 3, none⟩ (.slice A8 n8 c8)) (w.heap.size + 1 + 1) _ (.slice A8 n8 c8) ((ns.take j) ++ [x]) (us1 ++ [.string x]) (.slice B2 n2 d2) ts us2 fi2 from HTc.out.put1 hgb8 hown8 3 rfl (fun g hg => by cases hg))
            have HDz := hide (HDa.out.low (B := w.heap.size + 1 + 1) ((hq1.mono (by omega)).trans (HTc.out.frame1 hgb8 hszc 3 (.slice A8 n8 c8) (Nat.le_refl _))) (Nat.le_refl _))
            refine hK.out _ _ hS3 (fun hHeld => ?_)
            clear hK K hHeld
            refine wpAnyH_take (i := 9) (v := .pointer (some ⟨w.heap.size + 1 + 1, 3, none⟩)) rfl (by kernel_rfl) (by kernel_rfl) (by kernel_rfl) (fun _ _ _ h => h) (Or.inl ⟨by kernel_rfl, by (intro W hS; go_simp; first | done | with_reducible rfl | rfl)⟩) hS3 ?_
            (try simp only [Act.put, List.getElem_toArray, List.getElem_cons_zero, List.getElem_cons_succ, List.setIfInBounds_toArray, List.set_cons_zero, List.set_cons_succ])
            refine wpAnyH_ready (rs := [10]) (by kernel_rfl) (by simp) ?_
            refine AllReadyH.cons rfl (fun K hK => ?_) AllReadyH.nil
            go_simp
            refine hK.out _ _ hS4 (fun hHeld => ?_)
            clear hK K hHeld hS0 hS2 hS3 hS4 x8 f8 l8 r8 hown8 hgb8 hq1
            refine wpAnyH_done (by kernel_rfl) ?_ _
            generalize (World.setCell _ _ _) = wz at HTz HDz ⊢
            go_wp2_with fail
            go_meet
            exact ⟨A8, n8, c8, _, HTz.out, HDz.out⟩
        case rest =>
          obtain ⟨C1, m1, e1_, us1', hT, hD⟩ := hcut
          have HTq := hide hT
          have HDq := hide hD
          clear hT hD HTr HDr k1 k2 kl
          obtain ⟨gk, off, q0, q1, q2, fi, rfl, hgm, hfs, p0, p1, p2, hoy⟩ := kid_cells HDq.out.o2 hj
          have hmem : ks[j] ∈ ks := List.getElem_mem hj
          have hgd : ks[j].good (lv + 1) := Kind.goodS_at HGK.out hj
          have HTA := hide (show Kind.tnS (ks.take (j + 1)) = Kind.tnS (ks.take j) + ks[j].tn ∧ Kind.tpS (ks.take (j + 1)) = Kind.tpS (ks.take j) + ks[j].tp ∧ Kind.tnS (ks.take (j + 1)) ≤ Kind.tnS ks ∧ Kind.tpS (ks.take (j + 1)) ≤ Kind.tpS ks from ⟨Kind.tnS_snoc ks j hj, Kind.tpS_snoc ks j hj, Kind.tnS_le ks _, Kind.tpS_le ks _⟩)
          have HOY := hide (show OwC wc.drew ks[j].cells [q0, q1, q2] fi from hoy.below (below_drewN (Below.refl wc.heap.size wc) 1) (fun b hb => Nat.lt_of_lt_of_le (HDq.out.lt.right b (hfs hb)) HDq.out.gr.size))
          have hgk := HDq.out.lt.right gk hgm
          have hgkg : gk ≠ g := fun e => HDq.out.ng (List.mem_append_right _ (e ▸ hgm))
          have HKC := hide (fun (W : World) (hO : OwC W ks[j].cells [q0, q1, q2] fi) (hs : w.heap.size ≤ W.heap.size) (hr : RdD W g L kx) => show Calls Tryz.prog 54 #[.pointer (some ⟨g, 0, none⟩), .agg #[q0, q1, q2]] W (TDraw g L kx ks[j].tn ks[j].tp W) from
            HIH.out ks[j] hmem [q0, q1, q2] fi L kx g (lv + 1) W hO (fun b hb => Nat.lt_of_lt_of_le (HDq.out.lt.right b (hfs hb)) hs) hgd (fun hm => HDq.out.ng (List.mem_append_right _ (hfs hm))) hr (by have := HTP.out; have := HTA.out; have := HKX.out; omega) (by have := HTN.out; have := HTA.out; omega))
          have k2 := HDq.out.K.cell 2
          have kl := HDq.out.K.lt
          have hts : ts.length ≤ 1000000 := by have := HTL.out; have := HTN.out; omega
          clear hoy hfs hgm hmem hgd
          generalize ks[j] = y at *
          have hq0 : Below wc.heap.size wc wc.drew := below_drewN (Below.refl _ _) 1
          have HDa := hide (HDq.out.low hq0 (by have := HTq.out.box.lt; omega))
          have HTa := hide (show TreeAtR wc.drew (w.heap.size + 1 + 1) _ (.slice C1 m1 e1_) (ns.take j ++ [x]) us1' (.slice B2 n2 d2) ts us2 fi2 from HTq.out.drewN 1)
          have hS0 : wc.drew.cell? ⟨w.heap.size, 2, none⟩ = some (.slice (some ⟨gk, off, none⟩) ks.length c2) ∧ wc.drew.cell? ⟨gk, off + j * 3, none⟩ = some q0 ∧ wc.drew.cell? ⟨gk, off + j * 3 + 1, none⟩ = some q1 ∧ wc.drew.cell? ⟨gk, off + j * 3 + 2, none⟩ = some q2 := ⟨(hq0.cell (cell_lt k2)).trans k2, (hq0.cell (cell_lt p0)).trans p0, (hq0.cell (cell_lt p1)).trans p1, (hq0.cell (cell_lt p2)).trans p2⟩
          go_wp2_with fail
          refine wp_region_held_drew (S := fun W => W.cell? ⟨w.heap.size, 2, none⟩ = some (.slice (some ⟨gk, off, none⟩) ks.length c2) ∧ W.cell? ⟨gk, off + j * 3, none⟩ = some q0 ∧ W.cell? ⟨gk, off + j * 3 + 1, none⟩ = some q1 ∧ W.cell? ⟨gk, off + j * 3 + 2, none⟩ = some q2) (by kernel_rfl) hS0 (fun _ => ?_)
          clear hq0
          generalize wc.drew = w6 at *
          refine wpAnyH_take (i := 0) (v := .pointer (some ⟨w.heap.size + 1 + 1, 4, none⟩)) rfl (by kernel_rfl) (by kernel_rfl) (by kernel_rfl) (fun _ _ _ h => h) (Or.inl ⟨by kernel_rfl, by (intro W hS; go_simp; first | done | with_reducible rfl | rfl)⟩) hS0 ?_
          (try simp only [Act.put, List.getElem_toArray, List.getElem_cons_zero, List.getElem_cons_succ, List.setIfInBounds_toArray, List.set_cons_zero, List.set_cons_succ])
          refine wpAnyH_take (i := 2) (v := .pointer (some ⟨g, 0, none⟩)) rfl (by kernel_rfl) (by kernel_rfl) (by kernel_rfl) (fun _ _ _ h => h) (Or.inl ⟨by kernel_rfl, by (intro W hS; go_simp; first | done | with_reducible rfl | rfl)⟩) hS0 ?_
          (try simp only [Act.put, List.getElem_toArray, List.getElem_cons_zero, List.getElem_cons_succ, List.setIfInBounds_toArray, List.set_cons_zero, List.set_cons_succ])
          refine wpAnyH_take (i := 3) (v := .pointer (some ⟨w.heap.size, 2, none⟩)) rfl (by kernel_rfl) (by kernel_rfl) (by kernel_rfl) (fun _ _ _ h => h) (Or.inl ⟨by kernel_rfl, by (intro W hS; go_simp; first | done | with_reducible rfl | rfl)⟩) hS0 ?_
          (try simp only [Act.put, List.getElem_toArray, List.getElem_cons_zero, List.getElem_cons_succ, List.setIfInBounds_toArray, List.set_cons_zero, List.set_cons_succ])
          refine wpAnyH_take (i := 4) (v := .slice (some ⟨gk, off, none⟩) ks.length c2) rfl (by kernel_rfl) (by kernel_rfl) (by kernel_rfl) (fun _ _ _ h => h) (Or.inl ⟨by kernel_rfl, by (intro W hS; have y := hS.1; have yl := cell_lt y; go_simp; first | done | with_reducible rfl | rfl)⟩) hS0 ?_
          (try simp only [Act.put, List.getElem_toArray, List.getElem_cons_zero, List.getElem_cons_succ, List.setIfInBounds_toArray, List.set_cons_zero, List.set_cons_succ])
          refine wpAnyH_take (i := 5) (v := .int .i64 (j : Int)) rfl (by kernel_rfl) (by kernel_rfl) (by kernel_rfl) (fun _ _ _ h => h) (Or.inl ⟨by kernel_rfl, by (intro W hS; go_simp; first | done | with_reducible rfl | rfl)⟩) hS0 ?_
          (try simp only [Act.put, List.getElem_toArray, List.getElem_cons_zero, List.getElem_cons_succ, List.setIfInBounds_toArray, List.set_cons_zero, List.set_cons_succ])
          refine wpAnyH_take (i := 6) (v := .pointer (some ⟨gk, off + j * 3, none⟩)) rfl (by kernel_rfl) (by kernel_rfl) (by kernel_rfl) (fun _ _ _ h => h) (Or.inl ⟨by kernel_rfl, by (intro W hS; go_simp; first | done | with_reducible rfl | rfl)⟩) hS0 ?_
          (try simp only [Act.put, List.getElem_toArray, List.getElem_cons_zero, List.getElem_cons_succ, List.setIfInBounds_toArray, List.set_cons_zero, List.set_cons_succ])
          refine wpAnyH_take (i := 7) (v := .agg #[q0, q1, q2]) rfl (by kernel_rfl) (by kernel_rfl) (by kernel_rfl) (fun _ _ _ h => h) (Or.inl ⟨by kernel_rfl, by (intro W hS; have y := hS.2.1; have yl := cell_lt y; have y1 := hS.2.2.1; have y2 := hS.2.2.2; go_simp; first | done | with_reducible rfl | rfl)⟩) hS0 ?_
          (try simp only [Act.put, List.getElem_toArray, List.getElem_cons_zero, List.getElem_cons_succ, List.setIfInBounds_toArray, List.set_cons_zero, List.set_cons_succ])
          have x0 := HTa.out.box.cell 4
          have xl := HTa.out.box.lt
          refine wpAnyH_ready (rs := [1, 8]) (by kernel_rfl) (by simp) ?_
          refine AllReadyH.cons rfl (fun K hK => ?_) ?_
          · skip
            go_simp
            refine hK.out _ _ hS0 (fun hHeld => ?_)
            clear hK K hHeld
            refine wpAnyH_ready (rs := [8]) (by kernel_rfl) (by simp) ?_
            refine AllReadyH.cons rfl (fun K hK => ?_) AllReadyH.nil
            go_simp
            go_at_call 54
            refine (HKC.out w6 HOY.out HDa.out.gr.size HDa.out.rd).mono ?_
            rintro e w7 ⟨t, us7, fq7, k7, rfl, ho7, hn7, hb7, hk7, hr7, hg7⟩
            obtain ⟨E1, e1, E2, e2, g1, g2, rfl, x0_, x1_, x2_, x3_, x4_, efq⟩ := ho7.oTree
            have hS1 : w7.cell? ⟨w.heap.size, 2, none⟩ = some (.slice (some ⟨gk, off, none⟩) ks.length c2) ∧ w7.cell? ⟨gk, off + j * 3, none⟩ = some q0 ∧ w7.cell? ⟨gk, off + j * 3 + 1, none⟩ = some q1 ∧ w7.cell? ⟨gk, off + j * 3 + 2, none⟩ = some q2 := ⟨cell_grD hg7 (hS0.1) (by omega), cell_grD hg7 (hS0.2.1) hgkg, cell_grD hg7 (hS0.2.2.1) hgkg, cell_grD hg7 (hS0.2.2.2) hgkg⟩
            have HDb := hide (HDa.out.tick hg7 hr7)
            have HTb := hide (HTa.out.farR hg7 (by omega))
            have HO7 := hide ho7
            have HN7 := hide (hn7.mono (show w.heap.size + 1 + 1 + 1 ≤ w6.heap.size from HTa.out.box.lt))
            have HN7w := hide hn7.lt
            have HN7r := hide hn7
            have HN7f := hide hn7.fr
            have HLT7 := hide (show w6.heap.size ≤ w7.heap.size from hg7.size)
            have y0 := HTb.out.box.cell 4
            have yl := HTb.out.box.lt
            clear ho7 hn7 hr7 x3_ x4_ efq
            try go_simp
            refine hK.out _ _ hS1 (fun hHeld => ?_)
            clear hK K hHeld hg7
            refine wpAnyH_ready (rs := [9]) (by kernel_rfl) (by simp) ?_
            refine AllReadyH.cons rfl (fun K hK => ?_) AllReadyH.nil
            have hq1 : Below w7.heap.size w7 (w7.alloc (.cells #[.int .i64 t.sort, .int .i64 t.num, .string t.text, .slice E1 t.names.length e1, .slice E2 t.kids.length e2] 26)) := (Below.refl _ _).alloc (Nat.le_refl _) _
            have hS2 : (w7.alloc (.cells #[.int .i64 t.sort, .int .i64 t.num, .string t.text, .slice E1 t.names.length e1, .slice E2 t.kids.length e2] 26)).cell? ⟨w.heap.size, 2, none⟩ = some (.slice (some ⟨gk, off, none⟩) ks.length c2) ∧ (w7.alloc (.cells #[.int .i64 t.sort, .int .i64 t.num, .string t.text, .slice E1 t.names.length e1, .slice E2 t.kids.length e2] 26)).cell? ⟨gk, off + j * 3, none⟩ = some q0 ∧ (w7.alloc (.cells #[.int .i64 t.sort, .int .i64 t.num, .string t.text, .slice E1 t.names.length e1, .slice E2 t.kids.length e2] 26)).cell? ⟨gk, off + j * 3 + 1, none⟩ = some q1 ∧ (w7.alloc (.cells #[.int .i64 t.sort, .int .i64 t.num, .string t.text, .slice E1 t.names.length e1, .slice E2 t.kids.length e2] 26)).cell? ⟨gk, off + j * 3 + 2, none⟩ = some q2 := ⟨(hq1.cell (cell_lt (hS1.1))).trans (hS1.1), (hq1.cell (cell_lt (hS1.2.1))).trans (hS1.2.1), (hq1.cell (cell_lt (hS1.2.2.1))).trans (hS1.2.2.1), (hq1.cell (cell_lt (hS1.2.2.2))).trans (hS1.2.2.2)⟩
            have HTc := hide (HTb.out.alloc (.cells #[.int .i64 t.sort, .int .i64 t.num, .string t.text, .slice E1 t.names.length e1, .slice E2 t.kids.length e2] 26))
            have hszc : w.heap.size + 1 + 1 + 1 ≤ (w7.alloc (.cells #[.int .i64 t.sort, .int .i64 t.num, .string t.text, .slice E1 t.names.length e1, .slice E2 t.kids.length e2] 26)).heap.size := by have := HTb.out.box.lt; rw [World.size_alloc]; omega
            have HO7c := hide (HO7.out.alloc HN7w.out (.cells #[.int .i64 t.sort, .int .i64 t.num, .string t.text, .slice E1 t.names.length e1, .slice E2 t.kids.length e2] 26))
            have HN7c := hide (HN7.out.alloc (.cells #[.int .i64 t.sort, .int .i64 t.num, .string t.text, .slice E1 t.names.length e1, .slice E2 t.kids.length e2] 26))
            have HN7s := hide (show New (w7.alloc (.cells #[.int .i64 t.sort, .int .i64 t.num, .string t.text, .slice E1 t.names.length e1, .slice E2 t.kids.length e2] 26)) fq7 w6.heap.size from HN7r.out.alloc _)
            go_simp
            refine hK.out _ _ hS2 (fun hHeld => ?_)
            clear hK K hHeld
            refine wpAnyH_ready (rs := [10]) (by kernel_rfl) (by simp) ?_
            refine AllReadyH.cons rfl (fun K hK => ?_) AllReadyH.nil
            refine step_app (by rfl) _ _ 24 (by rfl) ib _ 80 Tryz.underlying24 HIb.out hb0 hb1 hb2 rfl (by decide) Tree.cells_len (by rfl) HTc.out.two [t] (by rw [List.flatMap_singleton]; exact HO7c.out) (New.app HTc.out.two.new HN7s.out (fun g hg => HTa.out.two.new.lt g hg) (by exact HTa.out.box.lt)) (fun g e hm => by (have k1 := HTa.out.two.lt g e); (have k2 := (HN7f.out g hm).1); exact absurd k1 (Nat.not_lt.2 k2)) _ 1 1 (by rfl) rfl (SrcAt.new w7 _ _ _ _) (by omega) (by decide) hszc ?_
            intro A8 n8 c8 w8 hn8 hown8 hgb8
            clear hn8
            have r8 := HTc.out.row2 hgb8
            have x8 := r8.cell 4
            have f8 := r8.frozen 4
            have l8 := r8.lt
            have hS3 : w8.cell? ⟨w.heap.size, 2, none⟩ = some (.slice (some ⟨gk, off, none⟩) ks.length c2) ∧ w8.cell? ⟨gk, off + j * 3, none⟩ = some q0 ∧ w8.cell? ⟨gk, off + j * 3 + 1, none⟩ = some q1 ∧ w8.cell? ⟨gk, off + j * 3 + 2, none⟩ = some q2 := ⟨cell_gbD hgb8 (hS2.1) (HTc.out.two.low (by omega)), cell_gbD hgb8 (hS2.2.1) (HTc.out.two.low (by omega)), cell_gbD hgb8 (hS2.2.2.1) (HTc.out.two.low (by omega)), cell_gbD hgb8 (hS2.2.2.2) (HTc.out.two.low (by omega))⟩
            have hS4 : (w8.setCell ⟨w.heap.size + 1 + 1, 4, none⟩ (.slice A8 n8 c8)).cell? ⟨w.heap.size, 2, none⟩ = some (.slice (some ⟨gk, off, none⟩) ks.length c2) ∧ (w8.setCell ⟨w.heap.size + 1 + 1, 4, none⟩ (.slice A8 n8 c8)).cell? ⟨gk, off + j * 3, none⟩ = some q0 ∧ (w8.setCell ⟨w.heap.size + 1 + 1, 4, none⟩ (.slice A8 n8 c8)).cell? ⟨gk, off + j * 3 + 1, none⟩ = some q1 ∧ (w8.setCell ⟨w.heap.size + 1 + 1, 4, none⟩ (.slice A8 n8 c8)).cell? ⟨gk, off + j * 3 + 2, none⟩ = some q2 := ⟨cell_setD (hS3.1) (by omega), cell_setD (hS3.2.1) (by omega), cell_setD (hS3.2.2.1) (by omega), cell_setD (hS3.2.2.2) (by omega)⟩
            have HTz := hide (show TreeAtR (w8.setCell ⟨w.heap.size + 1 + 1, 4, none⟩ (.slice A8 n8 c8)) (w.heap.size + 1 + 1) _ (.slice C1 m1 e1_) (ns.take j ++ [x]) us1' (.slice A8 n8 c8) (ts ++ [t]) (us2 ++ [.int .i64 t.sort, .int .i64 t.num, .string t.text, .slice E1 t.names.length e1, .slice E2 t.kids.length e2]) (fi2 ++ fq7) from HTc.out.put2 hgb8 hown8 4 rfl (fun g hg => by
                rcases List.mem_append.1 hg with hg | hg
                · exact .inl hg
                · exact .inr ⟨fun e => absurd (HTa.out.one.lt g e) (Nat.not_lt.2 (HN7f.out g hg).1), fun h => by cases h⟩))
            have HDz := hide (HDb.out.low (B := w.heap.size + 1 + 1) ((hq1.mono (by omega)).trans (HTc.out.frame2 hgb8 hszc 4 (.slice A8 n8 c8) (Nat.le_refl _))) (Nat.le_refl _))
            refine hK.out _ _ hS3 (fun hHeld => ?_)
            clear hK K hHeld
            refine wpAnyH_take (i := 11) (v := .pointer (some ⟨w.heap.size + 1 + 1, 4, none⟩)) rfl (by kernel_rfl) (by kernel_rfl) (by kernel_rfl) (fun _ _ _ h => h) (Or.inl ⟨by kernel_rfl, by (intro W hS; go_simp; first | done | with_reducible rfl | rfl)⟩) hS3 ?_
            (try simp only [Act.put, List.getElem_toArray, List.getElem_cons_zero, List.getElem_cons_succ, List.setIfInBounds_toArray, List.set_cons_zero, List.set_cons_succ])
            refine wpAnyH_ready (rs := [12]) (by kernel_rfl) (by simp) ?_
            refine AllReadyH.cons rfl (fun K hK => ?_) AllReadyH.nil
            go_simp
            refine hK.out _ _ hS4 (fun hHeld => ?_)
            clear hK K hHeld hS0 hS2 hS3 hS4 x8 f8 l8 r8 hown8 hgb8 hq1
            refine wpAnyH_done (by kernel_rfl) ?_ _
            generalize (World.setCell _ _ _) = wz at HTz HDz ⊢
            clear HTa HDa HTc HTb HDb HO7 HN7 HN7w HN7f HN7r HO7c HN7c HN7s HOY HKC
            have hb1 := HBK.out
            have hk1_ := HKX.out
            have hta := HTA.out
            have htl_ := HTL.out
            go_wp2
            go_roundw
            case rel => exact ⟨j + 1, ts ++ [t], _, _, _, _, A8, n8, c8, _, _, k7, by go_num, by rw [HTK.out]; exact HTz.out, HDz.out, hj, by rw [List.length_append, List.length_singleton, htl_], by rw [tbulkS_snoc]; omega, by omega⟩
            case measure => simp [intOf] <;> omega
          · refine AllReadyH.cons rfl (fun K hK => ?_) AllReadyH.nil
            go_simp
            go_at_call 54
            refine (HKC.out w6 HOY.out HDa.out.gr.size HDa.out.rd).mono ?_
            rintro e w7 ⟨t, us7, fq7, k7, rfl, ho7, hn7, hb7, hk7, hr7, hg7⟩
            obtain ⟨E1, e1, E2, e2, g1, g2, rfl, x0_, x1_, x2_, x3_, x4_, efq⟩ := ho7.oTree
            have hS1 : w7.cell? ⟨w.heap.size, 2, none⟩ = some (.slice (some ⟨gk, off, none⟩) ks.length c2) ∧ w7.cell? ⟨gk, off + j * 3, none⟩ = some q0 ∧ w7.cell? ⟨gk, off + j * 3 + 1, none⟩ = some q1 ∧ w7.cell? ⟨gk, off + j * 3 + 2, none⟩ = some q2 := ⟨cell_grD hg7 (hS0.1) (by omega), cell_grD hg7 (hS0.2.1) hgkg, cell_grD hg7 (hS0.2.2.1) hgkg, cell_grD hg7 (hS0.2.2.2) hgkg⟩
            have HDb := hide (HDa.out.tick hg7 hr7)
            have HTb := hide (HTa.out.farR hg7 (by omega))
            have HO7 := hide ho7
            have HN7 := hide (hn7.mono (show w.heap.size + 1 + 1 + 1 ≤ w6.heap.size from HTa.out.box.lt))
            have HN7w := hide hn7.lt
            have HN7r := hide hn7
            have HN7f := hide hn7.fr
            have HLT7 := hide (show w6.heap.size ≤ w7.heap.size from hg7.size)
            have y0 := HTb.out.box.cell 4
            have yl := HTb.out.box.lt
            clear ho7 hn7 hr7 x3_ x4_ efq
            try go_simp
            refine hK.out _ _ hS1 (fun hHeld => ?_)
            clear hK K hHeld hg7
            refine wpAnyH_ready (rs := [1, 9]) (by kernel_rfl) (by simp) ?_
            refine AllReadyH.cons rfl (fun K hK => ?_) ?_
            · skip
              go_simp
              refine hK.out _ _ hS1 (fun hHeld => ?_)
              clear hK K hHeld
              refine wpAnyH_ready (rs := [9]) (by kernel_rfl) (by simp) ?_
              refine AllReadyH.cons rfl (fun K hK => ?_) AllReadyH.nil
              have hq1 : Below w7.heap.size w7 (w7.alloc (.cells #[.int .i64 t.sort, .int .i64 t.num, .string t.text, .slice E1 t.names.length e1, .slice E2 t.kids.length e2] 26)) := (Below.refl _ _).alloc (Nat.le_refl _) _
              have hS2 : (w7.alloc (.cells #[.int .i64 t.sort, .int .i64 t.num, .string t.text, .slice E1 t.names.length e1, .slice E2 t.kids.length e2] 26)).cell? ⟨w.heap.size, 2, none⟩ = some (.slice (some ⟨gk, off, none⟩) ks.length c2) ∧ (w7.alloc (.cells #[.int .i64 t.sort, .int .i64 t.num, .string t.text, .slice E1 t.names.length e1, .slice E2 t.kids.length e2] 26)).cell? ⟨gk, off + j * 3, none⟩ = some q0 ∧ (w7.alloc (.cells #[.int .i64 t.sort, .int .i64 t.num, .string t.text, .slice E1 t.names.length e1, .slice E2 t.kids.length e2] 26)).cell? ⟨gk, off + j * 3 + 1, none⟩ = some q1 ∧ (w7.alloc (.cells #[.int .i64 t.sort, .int .i64 t.num, .string t.text, .slice E1 t.names.length e1, .slice E2 t.kids.length e2] 26)).cell? ⟨gk, off + j * 3 + 2, none⟩ = some q2 := ⟨(hq1.cell (cell_lt (hS1.1))).trans (hS1.1), (hq1.cell (cell_lt (hS1.2.1))).trans (hS1.2.1), (hq1.cell (cell_lt (hS1.2.2.1))).trans (hS1.2.2.1), (hq1.cell (cell_lt (hS1.2.2.2))).trans (hS1.2.2.2)⟩
              have HTc := hide (HTb.out.alloc (.cells #[.int .i64 t.sort, .int .i64 t.num, .string t.text, .slice E1 t.names.length e1, .slice E2 t.kids.length e2] 26))
              have hszc : w.heap.size + 1 + 1 + 1 ≤ (w7.alloc (.cells #[.int .i64 t.sort, .int .i64 t.num, .string t.text, .slice E1 t.names.length e1, .slice E2 t.kids.length e2] 26)).heap.size := by have := HTb.out.box.lt; rw [World.size_alloc]; omega
              have HO7c := hide (HO7.out.alloc HN7w.out (.cells #[.int .i64 t.sort, .int .i64 t.num, .string t.text, .slice E1 t.names.length e1, .slice E2 t.kids.length e2] 26))
              have HN7c := hide (HN7.out.alloc (.cells #[.int .i64 t.sort, .int .i64 t.num, .string t.text, .slice E1 t.names.length e1, .slice E2 t.kids.length e2] 26))
              have HN7s := hide (show New (w7.alloc (.cells #[.int .i64 t.sort, .int .i64 t.num, .string t.text, .slice E1 t.names.length e1, .slice E2 t.kids.length e2] 26)) fq7 w6.heap.size from HN7r.out.alloc _)
              go_simp
              refine hK.out _ _ hS2 (fun hHeld => ?_)
              clear hK K hHeld
              refine wpAnyH_ready (rs := [10]) (by kernel_rfl) (by simp) ?_
              refine AllReadyH.cons rfl (fun K hK => ?_) AllReadyH.nil
              refine step_app (by rfl) _ _ 24 (by rfl) ib _ 80 Tryz.underlying24 HIb.out hb0 hb1 hb2 rfl (by decide) Tree.cells_len (by rfl) HTc.out.two [t] (by rw [List.flatMap_singleton]; exact HO7c.out) (New.app HTc.out.two.new HN7s.out (fun g hg => HTa.out.two.new.lt g hg) (by exact HTa.out.box.lt)) (fun g e hm => by (have k1 := HTa.out.two.lt g e); (have k2 := (HN7f.out g hm).1); exact absurd k1 (Nat.not_lt.2 k2)) _ 1 1 (by rfl) rfl (SrcAt.new w7 _ _ _ _) (by omega) (by decide) hszc ?_
              intro A8 n8 c8 w8 hn8 hown8 hgb8
              clear hn8
              have r8 := HTc.out.row2 hgb8
              have x8 := r8.cell 4
              have f8 := r8.frozen 4
              have l8 := r8.lt
              have hS3 : w8.cell? ⟨w.heap.size, 2, none⟩ = some (.slice (some ⟨gk, off, none⟩) ks.length c2) ∧ w8.cell? ⟨gk, off + j * 3, none⟩ = some q0 ∧ w8.cell? ⟨gk, off + j * 3 + 1, none⟩ = some q1 ∧ w8.cell? ⟨gk, off + j * 3 + 2, none⟩ = some q2 := ⟨cell_gbD hgb8 (hS2.1) (HTc.out.two.low (by omega)), cell_gbD hgb8 (hS2.2.1) (HTc.out.two.low (by omega)), cell_gbD hgb8 (hS2.2.2.1) (HTc.out.two.low (by omega)), cell_gbD hgb8 (hS2.2.2.2) (HTc.out.two.low (by omega))⟩
              have hS4 : (w8.setCell ⟨w.heap.size + 1 + 1, 4, none⟩ (.slice A8 n8 c8)).cell? ⟨w.heap.size, 2, none⟩ = some (.slice (some ⟨gk, off, none⟩) ks.length c2) ∧ (w8.setCell ⟨w.heap.size + 1 + 1, 4, none⟩ (.slice A8 n8 c8)).cell? ⟨gk, off + j * 3, none⟩ = some q0 ∧ (w8.setCell ⟨w.heap.size + 1 + 1, 4, none⟩ (.slice A8 n8 c8)).cell? ⟨gk, off + j * 3 + 1, none⟩ = some q1 ∧ (w8.setCell ⟨w.heap.size + 1 + 1, 4, none⟩ (.slice A8 n8 c8)).cell? ⟨gk, off + j * 3 + 2, none⟩ = some q2 := ⟨cell_setD (hS3.1) (by omega), cell_setD (hS3.2.1) (by omega), cell_setD (hS3.2.2.1) (by omega), cell_setD (hS3.2.2.2) (by omega)⟩
              have HTz := hide (show TreeAtR (w8.setCell ⟨w.heap.size + 1 + 1, 4, none⟩ (.slice A8 n8 c8)) (w.heap.size + 1 + 1) _ (.slice C1 m1 e1_) (ns.take j ++ [x]) us1' (.slice A8 n8 c8) (ts ++ [t]) (us2 ++ [.int .i64 t.sort, .int .i64 t.num, .string t.text, .slice E1 t.names.length e1, .slice E2 t.kids.length e2]) (fi2 ++ fq7) from HTc.out.put2 hgb8 hown8 4 rfl (fun g hg => by
                  rcases List.mem_append.1 hg with hg | hg
                  · exact .inl hg
                  · exact .inr ⟨fun e => absurd (HTa.out.one.lt g e) (Nat.not_lt.2 (HN7f.out g hg).1), fun h => by cases h⟩))
              have HDz := hide (HDb.out.low (B := w.heap.size + 1 + 1) ((hq1.mono (by omega)).trans (HTc.out.frame2 hgb8 hszc 4 (.slice A8 n8 c8) (Nat.le_refl _))) (Nat.le_refl _))
              refine hK.out _ _ hS3 (fun hHeld => ?_)
              clear hK K hHeld
              refine wpAnyH_take (i := 11) (v := .pointer (some ⟨w.heap.size + 1 + 1, 4, none⟩)) rfl (by kernel_rfl) (by kernel_rfl) (by kernel_rfl) (fun _ _ _ h => h) (Or.inl ⟨by kernel_rfl, by (intro W hS; go_simp; first | done | with_reducible rfl | rfl)⟩) hS3 ?_
              (try simp only [Act.put, List.getElem_toArray, List.getElem_cons_zero, List.getElem_cons_succ, List.setIfInBounds_toArray, List.set_cons_zero, List.set_cons_succ])
              refine wpAnyH_ready (rs := [12]) (by kernel_rfl) (by simp) ?_
              refine AllReadyH.cons rfl (fun K hK => ?_) AllReadyH.nil
              go_simp
              refine hK.out _ _ hS4 (fun hHeld => ?_)
              clear hK K hHeld hS0 hS2 hS3 hS4 x8 f8 l8 r8 hown8 hgb8 hq1
              refine wpAnyH_done (by kernel_rfl) ?_ _
              generalize (World.setCell _ _ _) = wz at HTz HDz ⊢
              clear HTa HDa HTc HTb HDb HO7 HN7 HN7w HN7f HN7r HO7c HN7c HN7s HOY HKC
              have hb1 := HBK.out
              have hk1_ := HKX.out
              have hta := HTA.out
              have htl_ := HTL.out
              go_wp2
              go_roundw
              case rel => exact ⟨j + 1, ts ++ [t], _, _, _, _, A8, n8, c8, _, _, k7, by go_num, by rw [HTK.out]; exact HTz.out, HDz.out, hj, by rw [List.length_append, List.length_singleton, htl_], by rw [tbulkS_snoc]; omega, by omega⟩
              case measure => simp [intOf] <;> omega
            · refine AllReadyH.cons rfl (fun K hK => ?_) AllReadyH.nil
              have hq1 : Below w7.heap.size w7 (w7.alloc (.cells #[.int .i64 t.sort, .int .i64 t.num, .string t.text, .slice E1 t.names.length e1, .slice E2 t.kids.length e2] 26)) := (Below.refl _ _).alloc (Nat.le_refl _) _
              have hS2 : (w7.alloc (.cells #[.int .i64 t.sort, .int .i64 t.num, .string t.text, .slice E1 t.names.length e1, .slice E2 t.kids.length e2] 26)).cell? ⟨w.heap.size, 2, none⟩ = some (.slice (some ⟨gk, off, none⟩) ks.length c2) ∧ (w7.alloc (.cells #[.int .i64 t.sort, .int .i64 t.num, .string t.text, .slice E1 t.names.length e1, .slice E2 t.kids.length e2] 26)).cell? ⟨gk, off + j * 3, none⟩ = some q0 ∧ (w7.alloc (.cells #[.int .i64 t.sort, .int .i64 t.num, .string t.text, .slice E1 t.names.length e1, .slice E2 t.kids.length e2] 26)).cell? ⟨gk, off + j * 3 + 1, none⟩ = some q1 ∧ (w7.alloc (.cells #[.int .i64 t.sort, .int .i64 t.num, .string t.text, .slice E1 t.names.length e1, .slice E2 t.kids.length e2] 26)).cell? ⟨gk, off + j * 3 + 2, none⟩ = some q2 := ⟨(hq1.cell (cell_lt (hS1.1))).trans (hS1.1), (hq1.cell (cell_lt (hS1.2.1))).trans (hS1.2.1), (hq1.cell (cell_lt (hS1.2.2.1))).trans (hS1.2.2.1), (hq1.cell (cell_lt (hS1.2.2.2))).trans (hS1.2.2.2)⟩
              have HTc := hide (HTb.out.alloc (.cells #[.int .i64 t.sort, .int .i64 t.num, .string t.text, .slice E1 t.names.length e1, .slice E2 t.kids.length e2] 26))
              have hszc : w.heap.size + 1 + 1 + 1 ≤ (w7.alloc (.cells #[.int .i64 t.sort, .int .i64 t.num, .string t.text, .slice E1 t.names.length e1, .slice E2 t.kids.length e2] 26)).heap.size := by have := HTb.out.box.lt; rw [World.size_alloc]; omega
              have HO7c := hide (HO7.out.alloc HN7w.out (.cells #[.int .i64 t.sort, .int .i64 t.num, .string t.text, .slice E1 t.names.length e1, .slice E2 t.kids.length e2] 26))
              have HN7c := hide (HN7.out.alloc (.cells #[.int .i64 t.sort, .int .i64 t.num, .string t.text, .slice E1 t.names.length e1, .slice E2 t.kids.length e2] 26))
              have HN7s := hide (show New (w7.alloc (.cells #[.int .i64 t.sort, .int .i64 t.num, .string t.text, .slice E1 t.names.length e1, .slice E2 t.kids.length e2] 26)) fq7 w6.heap.size from HN7r.out.alloc _)
              go_simp
              refine hK.out _ _ hS2 (fun hHeld => ?_)
              clear hK K hHeld
              have u0 := HTc.out.box.cell 4
              have ul := HTc.out.box.lt
              refine wpAnyH_ready (rs := [1]) (by kernel_rfl) (by simp) ?_
              refine AllReadyH.cons rfl (fun K hK => ?_) AllReadyH.nil
              go_simp
              refine hK.out _ _ hS2 (fun hHeld => ?_)
              clear hK K hHeld
              clear u0 ul
              refine wpAnyH_ready (rs := [10]) (by kernel_rfl) (by simp) ?_
              refine AllReadyH.cons rfl (fun K hK => ?_) AllReadyH.nil
              refine step_app (by rfl) _ _ 24 (by rfl) ib _ 80 Tryz.underlying24 HIb.out hb0 hb1 hb2 rfl (by decide) Tree.cells_len (by rfl) HTc.out.two [t] (by rw [List.flatMap_singleton]; exact HO7c.out) (New.app HTc.out.two.new HN7s.out (fun g hg => HTa.out.two.new.lt g hg) (by exact HTa.out.box.lt)) (fun g e hm => by (have k1 := HTa.out.two.lt g e); (have k2 := (HN7f.out g hm).1); exact absurd k1 (Nat.not_lt.2 k2)) _ 1 1 (by rfl) rfl (SrcAt.new w7 _ _ _ _) (by omega) (by decide) hszc ?_
              intro A8 n8 c8 w8 hn8 hown8 hgb8
              clear hn8
              have r8 := HTc.out.row2 hgb8
              have x8 := r8.cell 4
              have f8 := r8.frozen 4
              have l8 := r8.lt
              have hS3 : w8.cell? ⟨w.heap.size, 2, none⟩ = some (.slice (some ⟨gk, off, none⟩) ks.length c2) ∧ w8.cell? ⟨gk, off + j * 3, none⟩ = some q0 ∧ w8.cell? ⟨gk, off + j * 3 + 1, none⟩ = some q1 ∧ w8.cell? ⟨gk, off + j * 3 + 2, none⟩ = some q2 := ⟨cell_gbD hgb8 (hS2.1) (HTc.out.two.low (by omega)), cell_gbD hgb8 (hS2.2.1) (HTc.out.two.low (by omega)), cell_gbD hgb8 (hS2.2.2.1) (HTc.out.two.low (by omega)), cell_gbD hgb8 (hS2.2.2.2) (HTc.out.two.low (by omega))⟩
              have hS4 : (w8.setCell ⟨w.heap.size + 1 + 1, 4, none⟩ (.slice A8 n8 c8)).cell? ⟨w.heap.size, 2, none⟩ = some (.slice (some ⟨gk, off, none⟩) ks.length c2) ∧ (w8.setCell ⟨w.heap.size + 1 + 1, 4, none⟩ (.slice A8 n8 c8)).cell? ⟨gk, off + j * 3, none⟩ = some q0 ∧ (w8.setCell ⟨w.heap.size + 1 + 1, 4, none⟩ (.slice A8 n8 c8)).cell? ⟨gk, off + j * 3 + 1, none⟩ = some q1 ∧ (w8.setCell ⟨w.heap.size + 1 + 1, 4, none⟩ (.slice A8 n8 c8)).cell? ⟨gk, off + j * 3 + 2, none⟩ = some q2 := ⟨cell_setD (hS3.1) (by omega), cell_setD (hS3.2.1) (by omega), cell_setD (hS3.2.2.1) (by omega), cell_setD (hS3.2.2.2) (by omega)⟩
              have HTz := hide (show TreeAtR (w8.setCell ⟨w.heap.size + 1 + 1, 4, none⟩ (.slice A8 n8 c8)) (w.heap.size + 1 + 1) _ (.slice C1 m1 e1_) (ns.take j ++ [x]) us1' (.slice A8 n8 c8) (ts ++ [t]) (us2 ++ [.int .i64 t.sort, .int .i64 t.num, .string t.text, .slice E1 t.names.length e1, .slice E2 t.kids.length e2]) (fi2 ++ fq7) from HTc.out.put2 hgb8 hown8 4 rfl (fun g hg => by
                  rcases List.mem_append.1 hg with hg | hg
                  · exact .inl hg
                  · exact .inr ⟨fun e => absurd (HTa.out.one.lt g e) (Nat.not_lt.2 (HN7f.out g hg).1), fun h => by cases h⟩))
              have HDz := hide (HDb.out.low (B := w.heap.size + 1 + 1) ((hq1.mono (by omega)).trans (HTc.out.frame2 hgb8 hszc 4 (.slice A8 n8 c8) (Nat.le_refl _))) (Nat.le_refl _))
              refine hK.out _ _ hS3 (fun hHeld => ?_)
              clear hK K hHeld
              refine wpAnyH_take (i := 11) (v := .pointer (some ⟨w.heap.size + 1 + 1, 4, none⟩)) rfl (by kernel_rfl) (by kernel_rfl) (by kernel_rfl) (fun _ _ _ h => h) (Or.inl ⟨by kernel_rfl, by (intro W hS; go_simp; first | done | with_reducible rfl | rfl)⟩) hS3 ?_
              (try simp only [Act.put, List.getElem_toArray, List.getElem_cons_zero, List.getElem_cons_succ, List.setIfInBounds_toArray, List.set_cons_zero, List.set_cons_succ])
              refine wpAnyH_ready (rs := [12]) (by kernel_rfl) (by simp) ?_
              refine AllReadyH.cons rfl (fun K hK => ?_) AllReadyH.nil
              go_simp
              refine hK.out _ _ hS4 (fun hHeld => ?_)
              clear hK K hHeld hS0 hS2 hS3 hS4 x8 f8 l8 r8 hown8 hgb8 hq1
              refine wpAnyH_done (by kernel_rfl) ?_ _
              generalize (World.setCell _ _ _) = wz at HTz HDz ⊢
              clear HTa HDa HTc HTb HDb HO7 HN7 HN7w HN7f HN7r HO7c HN7c HN7s HOY HKC
              have hb1 := HBK.out
              have hk1_ := HKX.out
              have hta := HTA.out
              have htl_ := HTL.out
              go_wp2
              go_roundw
              case rel => exact ⟨j + 1, ts ++ [t], _, _, _, _, A8, n8, c8, _, _, k7, by go_num, by rw [HTK.out]; exact HTz.out, HDz.out, hj, by rw [List.length_append, List.length_singleton, htl_], by rw [tbulkS_snoc]; omega, by omega⟩
              case measure => simp [intOf] <;> omega
theorem dTree_any (x : Kind) : DTree x := Kind.ind (fun k ih => by
  obtain ⟨s, ns, ks⟩ := k
  exact dTree_of s ns ks ih) x
end Go.Proofs.YtnaecdoeldoipaaGreatDoor
set_option linter.unusedVariables false
set_option linter.unusedSimpArgs false
namespace Go.Proofs.YtnaecdoeldoipaaGreatDoor
open Go.ChangeShapes Go.WideShapes Go.ChangeAt Go.RowKit

def TDrawW (g : Nat) (L : List UInt8) (k N M : Nat) (w : World) (e : Ending) (w' : World) : Prop :=
  ∃ (x : Tree) (us : List Value) (fq : List Nat) (k' : Nat), e = .returned (.agg us.toArray) ∧ OwC w' x.cells us fq ∧ Fr fq w.heap.size w'.heap.size ∧ x.bulk ≤ N ∧ k' ≤ k + M ∧ RdD w' g L k' ∧ w.grownBy w' (some g)
def TMade (N : Nat) (w : World) (e : Ending) (w' : World) : Prop :=
  ∃ (x : Tree) (us : List Value) (fq : List Nat), e = .returned (.agg us.toArray) ∧ OwC w' x.cells us fq ∧ Fr fq w.heap.size w'.heap.size ∧ x.bulk ≤ N ∧ Below w.heap.size w w'
def seven : Tree := .mk 1 7 .empty [] []
def four7 : Tree := .mk 4 0 .empty [] [seven, seven, seven, seven]
theorem seven_ow (W : World) : OwC W seven.cells [.int .i64 1, .int .i64 7, .string .empty, .slice none 0 0, .slice none 0 0] [] := tleaf_ow W (by decide) (by decide) (by decide)
theorem four7_ow {W : World} {g : Nat} (h : Row W g 26 [.int .i64 1, .int .i64 7, .string .empty, .slice none 0 0, .slice none 0 0, .int .i64 1, .int .i64 7, .string .empty, .slice none 0 0, .slice none 0 0, .int .i64 1, .int .i64 7, .string .empty, .slice none 0 0, .slice none 0 0, .int .i64 1, .int .i64 7, .string .empty, .slice none 0 0, .slice none 0 0]) : OwC W four7.cells [.int .i64 4, .int .i64 0, .string .empty, .slice none 0 0, .slice (some ⟨g, 0, none⟩) 4 4] [g] := by
  have h2 : Ow W (.s 5 [seven, seven, seven, seven].length ([seven, seven, seven, seven].flatMap Tree.cells)) (.slice (some ⟨g, 0, none⟩) 4 4) [g] := by
    unfold Ow
    refine ⟨by simp [Tree.cells_len], _, _, rfl, Nat.le_refl _, by unfold maxLen; omega, .inr ⟨by simp, g, 0, [], rfl, ?_, rfl⟩⟩
    have hc : OwC W ([seven, seven, seven, seven].flatMap Tree.cells) [.int .i64 1, .int .i64 7, .string .empty, .slice none 0 0, .slice none 0 0, .int .i64 1, .int .i64 7, .string .empty, .slice none 0 0, .slice none 0 0, .int .i64 1, .int .i64 7, .string .empty, .slice none 0 0, .slice none 0 0, .int .i64 1, .int .i64 7, .string .empty, .slice none 0 0, .slice none 0 0] [] := by
      simp only [List.flatMap_cons, List.flatMap_nil]
      exact (seven_ow W).append ((seven_ow W).append ((seven_ow W).append ((seven_ow W).append (show OwC W [] [] [] by simp [OwC]))))
    exact OwC.row _ hc (fun j u hj => by rw [Nat.zero_add, h.cell]; exact hj)
  have h3 := OwC.mTree (x := four7) (v1 := .slice none 0 0) (f1 := []) (show (Lit.int .i64 four7.sort).wf = true by decide) (show (Lit.int .i64 four7.num).wf = true by decide) (show four7.text.size ≤ maxLen by decide) (Ow.nil_ W 1 strC) h2
  rw [List.nil_append] at h3
  exact h3
theorem bulkS_rep (t : Tree) : ∀ n, Tree.bulkS (List.replicate n t) = n * t.bulk
  | 0 => by simp [Tree.bulkS]
  | n + 1 => by rw [List.replicate_succ, Tree.bulkS, bulkS_rep t n, Nat.succ_mul]; omega
/-- a list that grows in its box: each element is the tree t -/
structure Same (W : World) (b : Nat) (t : Tree) (A : Option Addr) (j d : Nat) (us : List Value) (fi : List Nat) (lo : Nat) : Prop where
  box : Row W b 26 (treeMkR 4 (.slice none 0 0) (.slice A j d))
  own : OwX W (b + 1) 26 5 Tree.cells (.slice A j d) (List.replicate j t) us fi
  fr : Fr fi lo b
theorem same_fin {W : World} {b : Nat} {t : Tree} {A : Option Addr} {j d : Nat} {us : List Value} {fi : List Nat} {lo : Nat} (h : Same W b t A j d us fi lo) (hlo : lo ≤ b) :
    ∃ fq, OwC W (Tree.mk 4 0 .empty [] (List.replicate j t)).cells (treeMkR 4 (.slice none 0 0) (.slice A j d)) fq ∧ Fr fq lo W.heap.size := by
  obtain ⟨p, ho, hn, hs⟩ := h.own.toOw'
  rw [List.length_replicate] at ho
  have h3 := OwC.mTree (x := Tree.mk 4 0 .empty [] (List.replicate j t)) (v1 := .slice none 0 0) (v2 := .slice A j d) (f1 := []) (f2 := p) (show (Lit.int .i64 4).wf = true by decide) (show (Lit.int .i64 0).wf = true by decide) (show (ByteArray.empty).size ≤ maxLen by decide) (Ow.nil_ W 1 strC) (by simp only [Tree.kids, List.length_replicate]; exact ho)
  rw [List.nil_append] at h3
  refine ⟨p, h3, fun q hq => ?_⟩
  rcases hs q hq with e | e
  · have := h.own.from e; have := h.own.lt q e; omega
  · have := h.fr q e; have := hn.lt q hq; omega
theorem Same.step {wr w5 : World} {b : Nat} {t : Tree} {A : Option Addr} {j d : Nat} {us : List Value} {fi : List Nat} {lo : Nat} (h : Same wr b t A j d us fi lo) (o : Obj) {A5 : Option Addr} {n5 c5 : Nat} {ux : List Value} {fx : List Nat}
    (hg : GB (wr.alloc o) w5 (.slice A j d) (.slice A5 n5 c5)) (ho : OwX w5 (b + 1) 26 5 Tree.cells (.slice A5 n5 c5) (List.replicate j t ++ [t]) (us ++ ux) (fi ++ fx)) (hn : n5 = (List.replicate j t).length + [t].length) (hfx : Fr fx lo b) :
    Same (w5.setCell ⟨b, 4, none⟩ (.slice A5 n5 c5)) b t A5 (j + 1) c5 (us ++ ux) (fi ++ fx) lo ∧ Below b wr (w5.setCell ⟨b, 4, none⟩ (.slice A5 n5 c5)) := by
  obtain rfl : n5 = j + 1 := by simpa using hn
  have hlt := h.box.lt
  have hf := h.fr.app hfx
  rw [← List.replicate_succ'] at ho
  refine ⟨⟨(hg.row (h.box.alloc o) (h.own.low (Nat.lt_succ_self _))).set 4 _, ho.setCell (p := ⟨b, 4, none⟩) (fun hm => Nat.lt_irrefl _ (hf b hm).2) (ho.low (Nat.lt_succ_self _)) _, hf⟩, ?_⟩
  exact ((Below.refl b wr).alloc (Nat.le_of_lt hlt) o).trans ((hg.toBelow (B := b) (by rw [World.size_alloc]; omega) (fun g e => by have := h.own.from e; omega)).setCell (p := ⟨b, 4, none⟩) (Nat.le_refl _) _)
theorem strs2_ow {W : World} {g : Nat} {x y : ByteArray} (h : Row W g 9 [.string x, .string y]) (hx : x.size ≤ maxLen) (hy : y.size ≤ maxLen) : Ow W (.s 1 [x, y].length ([x, y].flatMap strC)) (.slice (some ⟨g, 0, none⟩) 2 2) [g] := by
  unfold Ow
  refine ⟨by simp [strC], _, _, rfl, Nat.le_refl _, by unfold maxLen; omega, .inr ⟨by simp, g, 0, [], rfl, ?_, rfl⟩⟩
  have hc : OwC W ([x, y].flatMap strC) [.string x, .string y] [] := ⟨[], [], ⟨rfl, hx, rfl⟩, ⟨[], [], ⟨rfl, hy, rfl⟩, by simp [OwC], rfl⟩, rfl⟩
  exact OwC.row _ hc (fun j u hj => by rw [Nat.zero_add, h.cell]; exact hj)
theorem trees2_ow {W : World} {g : Nat} {a b : Tree} {us vs : List Value} {fa fb : List Nat} (ha : OwC W a.cells us fa) (hb : OwC W b.cells vs fb) (h : Row W g 26 (us ++ vs)) : Ow W (.s 5 [a, b].length ([a, b].flatMap Tree.cells)) (.slice (some ⟨g, 0, none⟩) 2 2) (g :: (fa ++ fb)) := by
  unfold Ow
  refine ⟨by simp [Tree.cells_len], _, _, rfl, Nat.le_refl _, by unfold maxLen; omega, .inr ⟨by simp, g, 0, fa ++ fb, rfl, ?_, rfl⟩⟩
  have hc : OwC W ([a, b].flatMap Tree.cells) (us ++ vs) (fa ++ fb) := by
    simp only [List.flatMap_cons, List.flatMap_nil, List.append_nil]
    exact ha.append hb
  exact OwC.row _ hc (fun j u hj => by rw [Nat.zero_add, h.cell]; exact hj)
theorem full_bulk (n m : Nat) (hm : n ≤ 18) : (Tree.mk 5 0 .empty [⟨#[97]⟩, ⟨#[98]⟩] [.mk 4 0 .empty [] (List.replicate 20 four7), .mk 4 0 .empty [] (List.replicate n seven)]).bulk ≤ 300 := by
  have h4 : four7.bulk = 4 := rfl
  have h7 : seven.bulk = 0 := rfl
  simp only [Tree.bulk_mk, Tree.bulkS, bulkS_rep, h4, h7, List.length_replicate, List.length_cons, List.length_nil, bulkStrs, bulkStr, ByteArray.size_empty]
  have e1 : (ByteArray.mk #[97]).size = 1 := rfl
  have e2 : (ByteArray.mk #[98]).size = 1 := rfl
  omega
set_option maxRecDepth 100000 in
set_option maxHeartbeats 4000000 in
theorem l5Full_any (n : Nat) (h1 : 104 ≤ n) (h2 : n ≤ 121) (w : World) : Calls Tryz.prog 92 #[.int .i64 (n : Int)] w (TMade 300 w) := by
  obtain ⟨ib, hib, hb0, hb1, hb2⟩ := info_parts info_TreeR
  have HIb := hide hib
  clear hib
  go_enter Tryz.func92, Tryz.ntmps92
  go_upto_region 4 with fail
  generalize hw1 : World.alloc _ _ = w1
  have hbA : Below w.heap.size w w1 := by rw [← hw1]; exact (((((Below.refl _ _).alloc (Nat.le_refl _) _).alloc (by simp) _).alloc (by simp; omega) _).alloc (by simp; omega) _).alloc (by simp; omega) _
  have HZ := hide (show Row w1 (w.heap.size) 26 [.int .i64 0, .int .i64 0, .string .empty, .slice none 0 0, .slice none 0 0] from by
      rw [← hw1]
      have h := ((((Row.new w 26 [.int .i64 0, .int .i64 0, .string .empty, .slice none 0 0, .slice none 0 0]).alloc (.cells [.int .i64 1, .int .i64 7, .string .empty, .slice none 0 0, .slice none 0 0].toArray 26)).alloc (.cells [.int .i64 1, .int .i64 7, .string .empty, .slice none 0 0, .slice none 0 0, .int .i64 1, .int .i64 7, .string .empty, .slice none 0 0, .slice none 0 0, .int .i64 1, .int .i64 7, .string .empty, .slice none 0 0, .slice none 0 0, .int .i64 1, .int .i64 7, .string .empty, .slice none 0 0, .slice none 0 0].toArray 26)).alloc (.cells [.int .i64 4, .int .i64 0, .string .empty, .slice none 0 0, .slice (some ⟨w.heap.size + 1 + 1, 0, none⟩) 4 4].toArray 26)).alloc (.cells (treeMkR 4 (.slice none 0 0) (.slice none 0 0)).toArray 26)
      exact h)
  have HO := hide (show Row w1 (w.heap.size + 1) 26 [.int .i64 1, .int .i64 7, .string .empty, .slice none 0 0, .slice none 0 0] from by
      rw [← hw1]
      have h := (((Row.new (w.alloc (.cells [.int .i64 0, .int .i64 0, .string .empty, .slice none 0 0, .slice none 0 0].toArray 26)) 26 [.int .i64 1, .int .i64 7, .string .empty, .slice none 0 0, .slice none 0 0]).alloc (.cells [.int .i64 1, .int .i64 7, .string .empty, .slice none 0 0, .slice none 0 0, .int .i64 1, .int .i64 7, .string .empty, .slice none 0 0, .slice none 0 0, .int .i64 1, .int .i64 7, .string .empty, .slice none 0 0, .slice none 0 0, .int .i64 1, .int .i64 7, .string .empty, .slice none 0 0, .slice none 0 0].toArray 26)).alloc (.cells [.int .i64 4, .int .i64 0, .string .empty, .slice none 0 0, .slice (some ⟨w.heap.size + 1 + 1, 0, none⟩) 4 4].toArray 26)).alloc (.cells (treeMkR 4 (.slice none 0 0) (.slice none 0 0)).toArray 26)
      rw [World.size_alloc] at h
      exact h)
  have HF4 := hide (show Row w1 (w.heap.size + 1 + 1) 26 [.int .i64 1, .int .i64 7, .string .empty, .slice none 0 0, .slice none 0 0, .int .i64 1, .int .i64 7, .string .empty, .slice none 0 0, .slice none 0 0, .int .i64 1, .int .i64 7, .string .empty, .slice none 0 0, .slice none 0 0, .int .i64 1, .int .i64 7, .string .empty, .slice none 0 0, .slice none 0 0] from by
      rw [← hw1]
      have h := ((Row.new ((w.alloc (.cells [.int .i64 0, .int .i64 0, .string .empty, .slice none 0 0, .slice none 0 0].toArray 26)).alloc (.cells [.int .i64 1, .int .i64 7, .string .empty, .slice none 0 0, .slice none 0 0].toArray 26)) 26 [.int .i64 1, .int .i64 7, .string .empty, .slice none 0 0, .slice none 0 0, .int .i64 1, .int .i64 7, .string .empty, .slice none 0 0, .slice none 0 0, .int .i64 1, .int .i64 7, .string .empty, .slice none 0 0, .slice none 0 0, .int .i64 1, .int .i64 7, .string .empty, .slice none 0 0, .slice none 0 0]).alloc (.cells [.int .i64 4, .int .i64 0, .string .empty, .slice none 0 0, .slice (some ⟨w.heap.size + 1 + 1, 0, none⟩) 4 4].toArray 26)).alloc (.cells (treeMkR 4 (.slice none 0 0) (.slice none 0 0)).toArray 26)
      rw [World.size_alloc, World.size_alloc] at h
      exact h)
  have HF := hide (show Row w1 (w.heap.size + 1 + 1 + 1) 26 [.int .i64 4, .int .i64 0, .string .empty, .slice none 0 0, .slice (some ⟨w.heap.size + 1 + 1, 0, none⟩) 4 4] from by
      rw [← hw1]
      have h := (Row.new (((w.alloc (.cells [.int .i64 0, .int .i64 0, .string .empty, .slice none 0 0, .slice none 0 0].toArray 26)).alloc (.cells [.int .i64 1, .int .i64 7, .string .empty, .slice none 0 0, .slice none 0 0].toArray 26)).alloc (.cells [.int .i64 1, .int .i64 7, .string .empty, .slice none 0 0, .slice none 0 0, .int .i64 1, .int .i64 7, .string .empty, .slice none 0 0, .slice none 0 0, .int .i64 1, .int .i64 7, .string .empty, .slice none 0 0, .slice none 0 0, .int .i64 1, .int .i64 7, .string .empty, .slice none 0 0, .slice none 0 0].toArray 26)) 26 [.int .i64 4, .int .i64 0, .string .empty, .slice none 0 0, .slice (some ⟨w.heap.size + 1 + 1, 0, none⟩) 4 4]).alloc (.cells (treeMkR 4 (.slice none 0 0) (.slice none 0 0)).toArray 26)
      rw [World.size_alloc, World.size_alloc, World.size_alloc] at h
      exact h)
  have HA := hide (show Same w1 (w.heap.size + 1 + 1 + 1 + 1) four7 none 0 0 [] [] (w.heap.size + 1 + 1) from ⟨by
      rw [← hw1]
      have h := Row.new ((((w.alloc (.cells [.int .i64 0, .int .i64 0, .string .empty, .slice none 0 0, .slice none 0 0].toArray 26)).alloc (.cells [.int .i64 1, .int .i64 7, .string .empty, .slice none 0 0, .slice none 0 0].toArray 26)).alloc (.cells [.int .i64 1, .int .i64 7, .string .empty, .slice none 0 0, .slice none 0 0, .int .i64 1, .int .i64 7, .string .empty, .slice none 0 0, .slice none 0 0, .int .i64 1, .int .i64 7, .string .empty, .slice none 0 0, .slice none 0 0, .int .i64 1, .int .i64 7, .string .empty, .slice none 0 0, .slice none 0 0].toArray 26)).alloc (.cells [.int .i64 4, .int .i64 0, .string .empty, .slice none 0 0, .slice (some ⟨w.heap.size + 1 + 1, 0, none⟩) 4 4].toArray 26)) 26 (treeMkR 4 (.slice none 0 0) (.slice none 0 0))
      rw [World.size_alloc, World.size_alloc, World.size_alloc, World.size_alloc] at h
      exact h, OwX.nil _ _ _ _ _, Fr.nil _ _⟩)
  have HB1 := hide hbA
  have hs1 := HA.out.box.lt
  clear hw1 hbA
  go_wp2_with fail
  go_loopw [6] (fun iv wr => ∃ (j : Nat) (A : Option Addr) (d : Nat) (us : List Value) (fi : List Nat), iv = .int .i64 (j : Int) ∧ j ≤ 20 ∧ Same wr (w.heap.size + 1 + 1 + 1 + 1) four7 A j d us fi (w.heap.size + 1 + 1) ∧ Below (w.heap.size + 1 + 1 + 1 + 1) w1 wr) (fun iv _ => 20 - (intOf iv).toNat)
  case atStart => exact ⟨0, none, 0, [], [], rfl, by omega, HA.out, Below.refl _ _⟩
  case round =>
    obtain ⟨j, A, d, us, fi, rfl, hj, hS, hb⟩ := hrel
    have HS := hide hS
    have HB := hide hb
    have HZr := hide (HZ.out.below hb (by omega))
    have HOr := hide (HO.out.below hb (by omega))
    have HF4r := hide (HF4.out.below hb (by omega))
    have HFr := hide (HF.out.below hb (by omega))
    have HBr := hide (HB1.out.trans (hb.mono (by omega)))
    clear hS hb HA
    by_cases hjl : j < 20
    · have hji : (j : Int) < 20 := by omega
      have q4 := HS.out.box.cell 4
      have q4f := HS.out.box.frozen 4
      have ql := HS.out.box.lt
      have f0 := HFr.out.cell 0
      have f1 := HFr.out.cell 1
      have f2 := HFr.out.cell 2
      have f3 := HFr.out.cell 3
      have f4 := HFr.out.cell 4
      have fl := HFr.out.lt
      have hal : Below wr.heap.size wr (wr.alloc (.cells [.int .i64 4, .int .i64 0, .string .empty, .slice none 0 0, .slice (some ⟨w.heap.size + 1 + 1, 0, none⟩) 4 4].toArray 26)) := (Below.refl _ _).alloc (Nat.le_refl _) _
      have HX := hide (HS.out.own.alloc (.cells [.int .i64 4, .int .i64 0, .string .empty, .slice none 0 0, .slice (some ⟨w.heap.size + 1 + 1, 0, none⟩) 4 4].toArray 26))
      have HXC := hide (show OwC (wr.alloc (.cells [.int .i64 4, .int .i64 0, .string .empty, .slice none 0 0, .slice (some ⟨w.heap.size + 1 + 1, 0, none⟩) 4 4].toArray 26)) ([four7].flatMap Tree.cells) [.int .i64 4, .int .i64 0, .string .empty, .slice none 0 0, .slice (some ⟨w.heap.size + 1 + 1, 0, none⟩) 4 4] [w.heap.size + 1 + 1] from by rw [List.flatMap_singleton]; exact four7_ow (HF4r.out.below hal (by have := HF4r.out.lt; omega)))
      have HNN := hide (show NewX (wr.alloc (.cells [.int .i64 4, .int .i64 0, .string .empty, .slice none 0 0, .slice (some ⟨w.heap.size + 1 + 1, 0, none⟩) 4 4].toArray 26)) (fi ++ [w.heap.size + 1 + 1]) (w.heap.size + 1 + 1 + 1 + 1 + 1) from ⟨fun q hq => by
        rcases List.mem_append.1 hq with hq | hq
        · have := (HS.out.fr q hq).2; rw [World.size_alloc]; omega
        · rw [List.mem_singleton] at hq; rw [World.size_alloc]; omega⟩)
      have HNO := hide (show ∀ q, (Value.slice A j d).ownBlock = some q → q ∉ [w.heap.size + 1 + 1] from fun q e hm => by
        have := HS.out.own.from e
        rw [List.mem_singleton] at hm
        omega)
      go_wp2_with (first
        | (at_builtin; refine wpl_appX rfl _ _ 24 rfl ib _ 80 Tryz.underlying24 HIb.out hb0 hb1 hb2 rfl (by decide) Tree.cells_len rfl HX.out [four7] HXC.out HNN.out HNO.out _ 1 1 rfl rfl (SrcAt.new wr _ _ _ _) (by rw [List.length_replicate]; omega) (by decide) (by rw [World.size_alloc]; omega) ?_; intro A5 n5 c5 w5 hn5 hown5 hgb5; have HG5 := hide (show GB (wr.alloc (.cells [.int .i64 4, .int .i64 0, .string .empty, .slice none 0 0, .slice (some ⟨w.heap.size + 1 + 1, 0, none⟩) 4 4].toArray 26)) w5 (.slice A j d) (.slice A5 n5 c5) from hgb5); have HO5 := hide hown5; have HN5 := hide hn5; have r5 := hgb5.row (HS.out.box.alloc (.cells [.int .i64 4, .int .i64 0, .string .empty, .slice none 0 0, .slice (some ⟨w.heap.size + 1 + 1, 0, none⟩) 4 4].toArray 26)) (HS.out.own.low (Nat.lt_succ_self _)); have x5 := r5.cell 4; have x5f := r5.frozen 4; have x5l := r5.lt; have HR5 := hide r5; clear hown5 hgb5 hn5 r5)
        | fail)
      have hst := HS.out.step (.cells [.int .i64 4, .int .i64 0, .string .empty, .slice none 0 0, .slice (some ⟨w.heap.size + 1 + 1, 0, none⟩) 4 4].toArray 26) HG5.out HO5.out HN5.out (fun q hq => by rw [List.mem_singleton] at hq; omega)
      have HST := hide hst
      clear hst
      go_roundw
      case rel => exact ⟨j + 1, A5, c5, _, _, by go_num, hjl, HST.out.1, HB.out.trans HST.out.2⟩
      case measure => simp [intOf]; omega
    · have hji : ¬ ((j : Int) < 20) := by omega
      obtain rfl : j = 20 := by omega
      obtain ⟨wa, rfl⟩ : ∃ W, W = wr := ⟨_, rfl⟩
      obtain ⟨fqa, hoa, hfa⟩ := same_fin HS.out (by omega)
      have HOA := hide hoa
      have HFA := hide hfa
      have HXA := hide HS.out.box
      have hab := HS.out.box.lt
      clear hoa hfa HZ HO HF4 HF HB1 hs1
      go_upto_region 9 with fail
      generalize hw2 : wa.alloc _ = w2
      have hal : Below wa.heap.size wa w2 := by rw [← hw2]; exact (Below.refl _ _).alloc (Nat.le_refl _) _
      have HSB := hide (show Same w2 wa.heap.size seven none 0 0 [] [] wa.heap.size from ⟨by rw [← hw2]; exact Row.new wa _ _, OwX.nil _ _ _ _ _, Fr.nil _ _⟩)
      have HXA2 := hide (HXA.out.below hal hab)
      have HOA2 := hide (HOA.out.below hal HFA.out.lt)
      have HZ2 := hide (HZr.out.below hal HZr.out.lt)
      have HO2 := hide (HOr.out.below hal HOr.out.lt)
      have HB2 := hide (HBr.out.trans (hal.mono HBr.out.size))
      have hs2 := hal.size
      clear hw2 hal HS HB HZr HOr HF4r HFr HBr HXA HOA
      go_wp2_with fail
      go_loopw [8] (fun iv wr => ∃ (m j : Nat) (A : Option Addr) (d : Nat) (us : List Value) (fi : List Nat), iv = .int .i64 (m : Int) ∧ m = 103 + j ∧ m ≤ n ∧ Same wr wa.heap.size seven A j d us fi wa.heap.size ∧ Below wa.heap.size w2 wr) (fun iv _ => n - (intOf iv).toNat)
      case atStart => exact ⟨103, 0, none, 0, [], [], rfl, rfl, by omega, HSB.out, Below.refl _ _⟩
      case round =>
        obtain ⟨m, j, A2, d2, us2, fi2, rfl, hm, hmn, hS, hb⟩ := hrel
        have HS := hide hS
        have HB := hide hb
        have HM := hide hm
        have hab2 : w.heap.size + 1 + 1 + 1 + 1 < wa.heap.size := hab
        have HZr := hide (HZ2.out.below hb (by omega))
        have HOr := hide (HO2.out.below hb (by omega))
        have HXAr := hide (HXA2.out.below hb hab)
        have HOAr := hide (HOA2.out.below hb HFA.out.lt)
        have HBr := hide (HB2.out.trans (hb.mono (by omega)))
        have hj18 : j ≤ 18 := by omega
        clear hS hb hm HSB HZ2 HO2 HXA2 HOA2 HB2
        by_cases hjl : m < n
        · have hji : (m : Int) < (n : Int) := by omega
          have q4 := HS.out.box.cell 4
          have q4f := HS.out.box.frozen 4
          have ql := HS.out.box.lt
          have f0 := HOr.out.cell 0
          have f1 := HOr.out.cell 1
          have f2 := HOr.out.cell 2
          have f3 := HOr.out.cell 3
          have f4 := HOr.out.cell 4
          have fl := HOr.out.lt
          have hal : Below wr.heap.size wr (wr.alloc (.cells [.int .i64 1, .int .i64 7, .string .empty, .slice none 0 0, .slice none 0 0].toArray 26)) := (Below.refl _ _).alloc (Nat.le_refl _) _
          have HX := hide (HS.out.own.alloc (.cells [.int .i64 1, .int .i64 7, .string .empty, .slice none 0 0, .slice none 0 0].toArray 26))
          have HXC := hide (show OwC (wr.alloc (.cells [.int .i64 1, .int .i64 7, .string .empty, .slice none 0 0, .slice none 0 0].toArray 26)) ([seven].flatMap Tree.cells) [.int .i64 1, .int .i64 7, .string .empty, .slice none 0 0, .slice none 0 0] [] from by rw [List.flatMap_singleton]; exact seven_ow _)
          have HNN := hide (show NewX (wr.alloc (.cells [.int .i64 1, .int .i64 7, .string .empty, .slice none 0 0, .slice none 0 0].toArray 26)) (fi2 ++ []) (wa.heap.size + 1) from ⟨fun q hq => by
            rw [List.append_nil] at hq
            have := (HS.out.fr q hq).2; rw [World.size_alloc]; omega⟩)
          go_wp2_with (first
            | (at_builtin; refine wpl_appX rfl _ _ 24 rfl ib _ 80 Tryz.underlying24 HIb.out hb0 hb1 hb2 rfl (by decide) Tree.cells_len rfl HX.out [seven] HXC.out HNN.out (fun q _ hq => by cases hq) _ 1 1 rfl rfl (SrcAt.new wr _ _ _ _) (by rw [List.length_replicate]; omega) (by decide) (by rw [World.size_alloc]; omega) ?_; intro A5 n5 c5 w5 hn5 hown5 hgb5; have HG5 := hide (show GB (wr.alloc (.cells [.int .i64 1, .int .i64 7, .string .empty, .slice none 0 0, .slice none 0 0].toArray 26)) w5 (.slice A2 j d2) (.slice A5 n5 c5) from hgb5); have HO5 := hide hown5; have HN5 := hide hn5; have r5 := hgb5.row (HS.out.box.alloc (.cells [.int .i64 1, .int .i64 7, .string .empty, .slice none 0 0, .slice none 0 0].toArray 26)) (HS.out.own.low (Nat.lt_succ_self _)); have x5 := r5.cell 4; have x5f := r5.frozen 4; have x5l := r5.lt; have HR5 := hide r5; clear hown5 hgb5 hn5 r5)
            | fail)
          have HST := hide (HS.out.step (.cells [.int .i64 1, .int .i64 7, .string .empty, .slice none 0 0, .slice none 0 0].toArray 26) HG5.out HO5.out HN5.out (Fr.nil _ _))
          have HM1 := hide (show m + 1 = 103 + (j + 1) from by have := HM.out; omega)
          go_roundw
          case rel => exact ⟨m + 1, j + 1, A5, c5, _, _, by go_num, HM1.out, hjl, HST.out.1, HB.out.trans HST.out.2⟩
          case measure => simp [intOf]; omega
        · have hji : ¬ ((m : Int) < (n : Int)) := by omega
          obtain ⟨fqb, hob, hfb⟩ := same_fin HS.out (Nat.le_refl _)
          have HOB := hide hob
          have HFB := hide hfb
          have HXB := hide HS.out.box
          clear hob hfb
          have p0 := HXAr.out.cell 0
          have p1 := HXAr.out.cell 1
          have p2 := HXAr.out.cell 2
          have p3 := HXAr.out.cell 3
          have p4 := HXAr.out.cell 4
          have q0 := HXB.out.cell 0
          have q1 := HXB.out.cell 1
          have q2 := HXB.out.cell 2
          have q3 := HXB.out.cell 3
          have q4 := HXB.out.cell 4
          have z0 := HZr.out.cell 0
          have zf0 := HZr.out.frozen 0
          have z1 := HZr.out.cell 1
          have zf1 := HZr.out.frozen 1
          have z2 := HZr.out.cell 2
          have zf2 := HZr.out.frozen 2
          have z3 := HZr.out.cell 3
          have zf3 := HZr.out.frozen 3
          have z4 := HZr.out.cell 4
          have zf4 := HZr.out.frozen 4
          have pl := HXAr.out.lt
          have ql := HXB.out.lt
          have zl := HZr.out.lt
          have hzA : w.heap.size ∉ fqa := fun hm => by have := HFA.out _ hm; omega
          have hzB : w.heap.size ∉ fqb := fun hm => by have := HFB.out _ hm; omega
          go_wp2
          refine bodyPost_ret (ret_row rfl _ _ w.heap.size 26 [.int .i64 5, .int .i64 0, .string .empty, .slice (some ⟨wr.heap.size, 0, none⟩) 2 2, .slice (some ⟨wr.heap.size + 1, 0, none⟩) 2 2] (((HZr.out.setAll [.int .i64 5, .int .i64 0, .string .empty, .slice (some ⟨wr.heap.size, 0, none⟩) 2 2, .slice (some ⟨wr.heap.size + 1, 0, none⟩) 2 2] rfl).alloc _).alloc _) _ rfl Tryz.underlying26 rfl (by kernel_rfl)) rfl ?_
          have hn1 : Below wr.heap.size wr (wr.alloc (.cells [.string ⟨#[97]⟩, .string ⟨#[98]⟩].toArray 9)) := (Below.refl _ _).alloc (Nat.le_refl _) _
          have hn2 := hn1.alloc (o := .cells (treeMkR 4 (.slice none 0 0) (.slice A 20 d) ++ treeMkR 4 (.slice none 0 0) (.slice A2 j d2)).toArray 26) (by rw [World.size_alloc]; omega)
          have rN := (Row.new wr 9 [.string ⟨#[97]⟩, .string ⟨#[98]⟩]).alloc (.cells (treeMkR 4 (.slice none 0 0) (.slice A 20 d) ++ treeMkR 4 (.slice none 0 0) (.slice A2 j d2)).toArray 26)
          have rK := Row.new (wr.alloc (.cells [.string ⟨#[97]⟩, .string ⟨#[98]⟩].toArray 9)) 26 (treeMkR 4 (.slice none 0 0) (.slice A 20 d) ++ treeMkR 4 (.slice none 0 0) (.slice A2 j d2))
          rw [World.size_alloc] at rK
          have hK := trees2_ow (HOAr.out.below hn2 (HFA.out.lt.mono (by have := ql; omega))) (HOB.out.below hn2 HFB.out.lt) rK
          have hT := OwC.mTree (x := Tree.mk 5 0 .empty [⟨#[97]⟩, ⟨#[98]⟩] [.mk 4 0 .empty [] (List.replicate 20 four7), .mk 4 0 .empty [] (List.replicate j seven)]) (show (Lit.int .i64 5).wf = true by decide) (show (Lit.int .i64 0).wf = true by decide) (show (ByteArray.empty).size ≤ maxLen by decide) (strs2_ow rN (by decide) (by decide)) hK
          have hgr := setN_grown [.int .i64 5, .int .i64 0, .string .empty, .slice (some ⟨wr.heap.size, 0, none⟩) 2 2, .slice (some ⟨wr.heap.size + 1, 0, none⟩) 2 2] 0 (grown_refl ((wr.alloc (.cells [.string ⟨#[97]⟩, .string ⟨#[98]⟩].toArray 9)).alloc (.cells (treeMkR 4 (.slice none 0 0) (.slice A 20 d) ++ treeMkR 4 (.slice none 0 0) (.slice A2 j d2)).toArray 26)) (some w.heap.size))
          have hlt : Lt ([wr.heap.size] ++ (wr.heap.size + 1) :: (fqa ++ fqb)) (wr.heap.size + 1 + 1) := fun q hq => by
            simp only [List.mem_append, List.mem_cons, List.not_mem_nil, or_false] at hq
            rcases hq with e | e | e | e
            · omega
            · omega
            · have := HFA.out q e; omega
            · have := HFB.out q e; omega
          have hno : w.heap.size ∉ [wr.heap.size] ++ (wr.heap.size + 1) :: (fqa ++ fqb) := fun hq => by
            simp only [List.mem_append, List.mem_cons, List.not_mem_nil, or_false] at hq
            rcases hq with e | e | e | e
            · omega
            · omega
            · exact hzA e
            · exact hzB e
          have hfin := hT.grown hgr (by simpa using hlt) hno
          have hbz := (HBr.out.trans (hn2.mono HBr.out.size)).trans (below_of_grown hgr (Nat.le_refl _) (by rw [World.size_alloc, World.size_alloc]; omega))
          have hsz := hgr.size
          rw [putN_allocR _ _ _ _ (by rw [World.size_alloc]; omega), putN_allocR _ _ _ _ zl] at hfin hbz hsz
          refine ⟨_, [.int .i64 5, .int .i64 0, .string .empty, .slice (some ⟨wr.heap.size, 0, none⟩) 2 2, .slice (some ⟨wr.heap.size + 1, 0, none⟩) 2 2], _, rfl, hfin, fun q hq => ?_, full_bulk _ 0 hj18, hbz⟩
          have h9 := hlt q hq
          refine ⟨?_, Nat.lt_of_lt_of_le h9 (by simp)⟩
          simp only [List.mem_append, List.mem_cons, List.not_mem_nil, or_false] at hq
          rcases hq with e | e | e | e
          · omega
          · omega
          · have := HFA.out q e; omega
          · have := HFB.out q e; omega
set_option maxRecDepth 100000 in
set_option maxHeartbeats 4000000 in
theorem l5Deep_any (n : Nat) (h1 : 1 ≤ n) (h2 : n ≤ 100) (w : World) : Calls Tryz.prog 93 #[.int .i64 (n : Int)] w (TMade 300 w) := by
  go_enter Tryz.func93, Tryz.ntmps93
  go_upto_region 2 with fail
  generalize hw1 : World.alloc _ _ = w1
  have hbA : Below w.heap.size w w1 := by rw [← hw1]; exact ((Below.refl _ _).alloc (Nat.le_refl _) _).alloc (by simp) _
  have HZ := hide (show Row w1 w.heap.size 26 [.int .i64 0, .int .i64 0, .string .empty, .slice none 0 0, .slice none 0 0] from by rw [← hw1]; exact (Row.new w _ _).alloc _)
  have HT := hide (show Row w1 (w.heap.size + 1) 26 [.int .i64 3, .int .i64 1, .string .empty, .slice none 0 0, .slice none 0 0] from by
    rw [← hw1]
    have h := Row.new (w.alloc (.cells [.int .i64 0, .int .i64 0, .string .empty, .slice none 0 0, .slice none 0 0].toArray 26)) 26 [.int .i64 3, .int .i64 1, .string .empty, .slice none 0 0, .slice none 0 0]
    rw [World.size_alloc] at h
    exact h)
  have HB := hide hbA
  clear hw1 hbA
  go_wp2_with fail
  go_loopw [4] (fun iv wr => ∃ (j : Nat) (t : Tree) (us : List Value) (fq : List Nat), iv = .int .i64 (j : Int) ∧ j ≤ n ∧ Row wr (w.heap.size + 1) 26 us ∧ OwC wr t.cells us fq ∧ Fr fq (w.heap.size + 1 + 1) wr.heap.size ∧ t.bulk + 1 = j ∧ Row wr w.heap.size 26 [.int .i64 0, .int .i64 0, .string .empty, .slice none 0 0, .slice none 0 0] ∧ Below w.heap.size w wr) (fun iv _ => n - (intOf iv).toNat)
  case atStart => exact ⟨1, .mk 3 1 .empty [] [], _, [], rfl, h1, HT.out, tleaf_ow _ (by decide) (by decide) (by decide), Fr.nil _ _, rfl, HZ.out, HB.out⟩
  case round =>
    obtain ⟨j, t, us, fq, rfl, hj, hr, ho, hf, hbk, hz, hb⟩ := hrel
    obtain ⟨E1, e1, E2, e2, g1, g2, rfl, x0, x1, x2, x3, x4, efq⟩ := ho.oTree
    have HRr := hide hr
    have HOr := hide ho
    have HFr := hide hf
    have HBK := hide hbk
    have HZr := hide hz
    have HBr := hide hb
    clear hr ho hf hbk hz hb x3 x4 efq HZ HT HB
    have t0 := HRr.out.cell 0
    have tf0 := HRr.out.frozen 0
    have t1 := HRr.out.cell 1
    have tf1 := HRr.out.frozen 1
    have t2 := HRr.out.cell 2
    have tf2 := HRr.out.frozen 2
    have t3 := HRr.out.cell 3
    have tf3 := HRr.out.frozen 3
    have t4 := HRr.out.cell 4
    have tf4 := HRr.out.frozen 4
    have z0 := HZr.out.cell 0
    have zf0 := HZr.out.frozen 0
    have z1 := HZr.out.cell 1
    have zf1 := HZr.out.frozen 1
    have z2 := HZr.out.cell 2
    have zf2 := HZr.out.frozen 2
    have z3 := HZr.out.cell 3
    have zf3 := HZr.out.frozen 3
    have z4 := HZr.out.cell 4
    have zf4 := HZr.out.frozen 4
    have tl := HRr.out.lt
    have zl := HZr.out.lt
    by_cases hjl : j < n
    · have hji : (j : Int) < (n : Int) := by omega
      go_upto_region 4 with fail
      generalize hwz : World.alloc _ _ = wz
      have hput : (putN wr (w.heap.size + 1) 0 [.int .i64 4, .int .i64 0, .string .empty, .slice none 0 0, .slice (some ⟨wr.heap.size, 0, none⟩) 1 1]).alloc (.cells [.int .i64 t.sort, .int .i64 t.num, .string t.text, .slice E1 t.names.length e1, .slice E2 t.kids.length e2].toArray 26) = wz := hwz
      have hgr := setN_grown [.int .i64 4, .int .i64 0, .string .empty, .slice none 0 0, .slice (some ⟨wr.heap.size, 0, none⟩) 1 1] 0 (grown_refl wr (some (w.heap.size + 1)))
      have hsz : (putN wr (w.heap.size + 1) 0 [.int .i64 4, .int .i64 0, .string .empty, .slice none 0 0, .slice (some ⟨wr.heap.size, 0, none⟩) 1 1]).heap.size = wr.heap.size := by simp [putN]
      have hno : w.heap.size + 1 ∉ fq := fun hm => by have := (HFr.out _ hm).1; omega
      have hRow : Row wz wr.heap.size 26 [.int .i64 t.sort, .int .i64 t.num, .string t.text, .slice E1 t.names.length e1, .slice E2 t.kids.length e2] := by
        rw [← hput]
        have h := Row.new (putN wr (w.heap.size + 1) 0 [.int .i64 4, .int .i64 0, .string .empty, .slice none 0 0, .slice (some ⟨wr.heap.size, 0, none⟩) 1 1]) 26 [.int .i64 t.sort, .int .i64 t.num, .string t.text, .slice E1 t.names.length e1, .slice E2 t.kids.length e2]
        rw [hsz] at h
        exact h
      have hX : Row wz (w.heap.size + 1) 26 [.int .i64 4, .int .i64 0, .string .empty, .slice none 0 0, .slice (some ⟨wr.heap.size, 0, none⟩) 1 1] := by rw [← hput]; exact (HRr.out.setAll [.int .i64 4, .int .i64 0, .string .empty, .slice none 0 0, .slice (some ⟨wr.heap.size, 0, none⟩) 1 1] rfl).alloc _
      have hZ : Row wz w.heap.size 26 [.int .i64 0, .int .i64 0, .string .empty, .slice none 0 0, .slice none 0 0] := by rw [← hput]; exact (HZr.out.grown hgr (fun e => by injection e with e; omega)).alloc _
      have hO : OwC wz t.cells [.int .i64 t.sort, .int .i64 t.num, .string t.text, .slice E1 t.names.length e1, .slice E2 t.kids.length e2] fq := by rw [← hput]; exact (HOr.out.grown hgr HFr.out.lt hno).alloc (by rw [hsz]; exact HFr.out.lt) _
      have hB : Below w.heap.size w wz := by rw [← hput]; exact (HBr.out.trans (below_of_grown hgr (by omega) HBr.out.size)).alloc (by rw [hsz]; omega) _
      have hws : wz.heap.size = wr.heap.size + 1 := by rw [← hput, World.size_alloc, hsz]
      have HX := hide hX
      have HZ2 := hide hZ
      have HO2 := hide (tone_ow (s := 4) (by decide) hO wr.heap.size hRow)
      have HB2 := hide hB
      have HF2 := hide (show Fr (wr.heap.size :: fq) (w.heap.size + 1 + 1) wz.heap.size from (HFr.out.mono (Nat.le_refl _) (by omega)).cons (by omega) (by omega))
      have HK2 := hide (show (Tree.mk 4 0 .empty [] [t]).bulk + 1 = j + 1 from by rw [Tree.bulk_one]; have := HBK.out; omega)
      clear hwz hput hgr hsz hno hRow hX hZ hO hB hws t0 tf0 z0 zf0 t1 tf1 z1 zf1 t2 tf2 z2 zf2 t3 tf3 z3 zf3 t4 tf4 z4 zf4 tl zl
      go_wp2
      go_roundw
      case rel => exact ⟨j + 1, .mk 4 0 .empty [] [t], _, _, by go_num, hjl, HX.out, HO2.out, HF2.out, HK2.out, HZ2.out, HB2.out⟩
      case measure => simp [intOf]; omega
    · have hji : ¬ ((j : Int) < (n : Int)) := by omega
      go_wp2
      refine bodyPost_ret (ret_row rfl _ _ w.heap.size 26 [.int .i64 t.sort, .int .i64 t.num, .string t.text, .slice E1 t.names.length e1, .slice E2 t.kids.length e2] (HZr.out.setAll [.int .i64 t.sort, .int .i64 t.num, .string t.text, .slice E1 t.names.length e1, .slice E2 t.kids.length e2] rfl) _ rfl Tryz.underlying26 rfl (by kernel_rfl)) rfl ?_
      have hgr := setN_grown [.int .i64 t.sort, .int .i64 t.num, .string t.text, .slice E1 t.names.length e1, .slice E2 t.kids.length e2] 0 (grown_refl wr (some w.heap.size))
      have hno : w.heap.size ∉ fq := fun hm => by have := (HFr.out _ hm).1; omega
      exact ⟨t, _, fq, rfl, HOr.out.grown hgr HFr.out.lt hno, HFr.out.mono (by omega) hgr.size, by have := HBK.out; omega, HBr.out.trans (below_of_grown hgr (Nat.le_refl _) HBr.out.size)⟩
end Go.Proofs.YtnaecdoeldoipaaGreatDoor
set_option linter.unusedVariables false
set_option linter.unusedSimpArgs false
namespace Go.Proofs.YtnaecdoeldoipaaGreatDoor
open Go.ChangeShapes Go.WideShapes Go.ChangeAt Go.RowKit

theorem set5 (u1 u2 : List Value) (p q r s t a b c d e : Value) : (((((u1 ++ ([p, q, r, s, t] ++ u2)).set u1.length a).set (u1.length + 1) b).set (u1.length + 1 + 1) c).set (u1.length + 1 + 1 + 1) d).set (u1.length + 1 + 1 + 1 + 1) e = u1 ++ ([a, b, c, d, e] ++ u2) := by
  rw [List.set_append_right _ _ (Nat.le_refl _), List.set_append_right _ _ (by omega), List.set_append_right _ _ (by omega), List.set_append_right _ _ (by omega), List.set_append_right _ _ (by omega)]
  simp [show u1.length + 1 + 1 - u1.length = 2 by omega, show u1.length + 1 + 1 + 1 - u1.length = 3 by omega, show u1.length + 1 + 1 + 1 + 1 - u1.length = 4 by omega]
theorem OwS.putAt5 {α : Type} {w : World} {B : Nat} {e : TypeId} {f : α → List D} {g n c : Nat} {l1 l2 : List α} {x y : α} {u1 u0 u2 ux : List Value} {f1 f0 f2 fx : List Nat}
    (h : OwS w B e 5 f (.slice (some ⟨g, 0, none⟩) n c) (l1 ++ x :: l2) (u1 ++ (u0 ++ u2)) (f1 ++ (f0 ++ f2)))
    (c1 : OwC w (l1.flatMap f) u1 f1) (c2 : OwC w (l2.flatMap f) u2 f2) (h0 : u0.length = 5) (hx : OwC w (f y) ux fx) (hxl : ux.length = 5) (hn : New w fx B)
    (hfx : ∀ b ∈ fx, b ∈ f0 ∨ (b ∉ f1 ∧ b ∉ f2 ∧ b ≠ g)) :
    OwS (putN w g u1.length ux) B e 5 f (.slice (some ⟨g, 0, none⟩) n c) (l1 ++ y :: l2) (u1 ++ (ux ++ u2)) (f1 ++ (fx ++ f2)) := by
  obtain ⟨p, q, r, s, t, rfl⟩ : ∃ p q r s t, u0 = [p, q, r, s, t] := by
    match u0, h0 with
    | [p, q, r, s, t], _ => exact ⟨p, q, r, s, t, rfl⟩
  obtain ⟨a, b, d, d1, d2, rfl⟩ : ∃ p q r s t, ux = [p, q, r, s, t] := by
    match ux, hxl with
    | [p, q, r, s, t], _ => exact ⟨p, q, r, s, t, rfl⟩
  have hgr := setN_grown (w0 := w) [a, b, d, d1, d2] u1.length (grown_refl w (some g))
  have hgo := h.out g rfl
  have hg1 : g ∉ f1 := fun hm => hgo (by simp [hm])
  have hg0 : g ∉ f0 := fun hm => hgo (by simp [hm])
  have hg2 : g ∉ f2 := fun hm => hgo (by simp [hm])
  have hgx : g ∉ fx := fun hm => by
    rcases hfx g hm with h | h
    · exact hg0 h
    · exact h.2.2 rfl
  have hnd := h.new.nd
  have hnn : New w (f1 ++ (fx ++ f2)) B := by
    rw [List.nodup_append] at hnd
    obtain ⟨n1, n2, n3⟩ := hnd
    rw [List.nodup_append] at n2
    obtain ⟨n4, n5, n6⟩ := n2
    refine ⟨fun b hb => ?_, List.nodup_append.2 ⟨n1, List.nodup_append.2 ⟨hn.nd, n5, fun b hb b' hb' e => ?_⟩, fun b hb b' hb' e => ?_⟩, fun b hb => ?_⟩
    · simp only [List.mem_append] at hb
      rcases hb with hb | hb | hb
      · exact h.new.fr b (by simp [hb])
      · exact hn.fr b hb
      · exact h.new.fr b (by simp [hb])
    · subst e
      rcases hfx b hb with h | h
      · exact n6 b h b hb' rfl
      · exact h.2.1 hb'
    · subst e
      rcases List.mem_append.1 hb' with hb' | hb'
      · rcases hfx b hb' with h | h
        · exact n3 b hb b (by simp [h]) rfl
        · exact h.1 hb
      · exact n3 b hb b (by simp [hb']) rfl
    · simp only [List.mem_append] at hb
      rcases hb with hb | hb | hb
      · exact h.new.uf b (by simp [hb])
      · exact hn.uf b hb
      · exact h.new.uf b (by simp [hb])
  have hcc : OwC w ((l1 ++ y :: l2).flatMap f) (u1 ++ ([a, b, d, d1, d2] ++ u2)) (f1 ++ (fx ++ f2)) := by
    rw [List.flatMap_append, List.flatMap_cons]
    exact c1.append (hx.append c2)
  have hno : ∀ k, some g = some k → k ∉ f1 ++ (fx ++ f2) := fun k e hm => by
    injection e with e
    subst e
    simp only [List.mem_append] at hm
    rcases hm with hm | hm | hm
    · exact hg1 hm
    · exact hgx hm
    · exact hg2 hm
  obtain rfl : n = (l1 ++ x :: l2).length := by
    obtain ⟨A, c', e⟩ := h.form
    injection e
  have s1 := (h.own.stored u1.length a).1
  have s2 := (s1.stored (u1.length + 1) b).1
  have s3 := (s2.stored (u1.length + 1 + 1) d).1
  have s4 := (s3.stored (u1.length + 1 + 1 + 1) d1).1
  have s5 := (s4.stored (u1.length + 1 + 1 + 1 + 1) d2).1
  rw [set5] at s5
  refine ⟨?_, hcc.grown' hgr hnn.lt hno, hnn.grown hgr hno, fun k e => hno k e⟩
  have hl : (l1 ++ y :: l2).length = (l1 ++ x :: l2).length := by simp
  rw [hl]
  exact s5
def SpoilOutT (g : Nat) (L : List UInt8) (k N M lo : Nat) (fp : List Nat) (w : World) (e : Ending) (w' : World) : Prop :=
  ∃ (y : Tree) (us : List Value) (fq : List Nat) (k' : Nat), e = .returned (.agg us.toArray) ∧ OwC w' y.cells us fq ∧ New w' fq lo ∧ (∀ b ∈ fq, b ∈ fp ∨ w.heap.size ≤ b) ∧ y.bulk ≤ N ∧ k' ≤ k + M ∧ RdD w' g L k' ∧ w.grownBy w' (some g)
def SpoilTr (x : Tree) : Prop := ∀ (us : List Value) (fp : List Nat) (L : List UInt8) (k g lo : Nat) (w : World), OwC w x.cells us fp → New w fp lo → g < lo → lo ≤ w.heap.size → RdD w g L k → x.bulk ≤ 1000000 → k + 3 * x.bulk ≤ 90000000 →
  Calls Tryz.prog 55 #[.pointer (some ⟨g, 0, none⟩), .agg us.toArray] w (SpoilOutT g L k (x.bulk + 1000) (3 * x.bulk + 100) lo fp w)
/-- the state of a spoiling: the box, the result's block, what the tree's slices hold, the source -/
structure SpT (s n : Int) (x : ByteArray) (ns : List ByteArray) (ks : List Tree) (A1 : Option Addr) (c1 : Nat) (A2 : Option Addr) (c2 : Nat) (f1 f2 fp : List Nat) (lo g : Nat) (L : List UInt8) (w W : World) (k' : Nat) : Prop where
  X : Row W w.heap.size 26 [.int .i64 s, .int .i64 n, .string x, .slice A1 ns.length c1, .slice A2 ks.length c2]
  Z : Row W (w.heap.size + 1) 26 [.int .i64 0, .int .i64 0, .string .empty, .slice none 0 0, .slice none 0 0]
  ws : (Lit.int .i64 s).wf = true
  wn : (Lit.int .i64 n).wf = true
  wx : x.size ≤ maxLen
  o1 : Ow W (.s 1 ns.length (ns.flatMap strC)) (.slice A1 ns.length c1) f1
  o2 : Ow W (.s 5 ks.length (ks.flatMap Tree.cells)) (.slice A2 ks.length c2) f2
  hn : New W (f1 ++ f2) lo
  hs : ∀ b ∈ f1 ++ f2, b ∈ fp ∨ w.heap.size + 2 ≤ b
  hf : Lt fp w.heap.size
  gl : g < lo
  ll : lo ≤ w.heap.size
  rd : RdD W g L k'
  gr : w.grownBy W (some g)
section
variable {s n : Int} {x : ByteArray} {ns : List ByteArray} {ks : List Tree} {A1 : Option Addr} {c1 : Nat} {A2 : Option Addr} {c2 : Nat} {f1 f2 fp : List Nat} {lo g : Nat} {L : List UInt8} {w W W' : World} {k' k2 : Nat}
theorem SpT.nobox (h : SpT s n x ns ks A1 c1 A2 c2 f1 f2 fp lo g L w W k') : w.heap.size ∉ f1 ++ f2 := fun hm => by
  rcases h.hs _ hm with e | e
  · have := h.hf _ e; omega
  · omega
theorem SpT.nores (h : SpT s n x ns ks A1 c1 A2 c2 f1 f2 fp lo g L w W k') : w.heap.size + 1 ∉ f1 ++ f2 := fun hm => by
  rcases h.hs _ hm with e | e
  · have := h.hf _ e; omega
  · omega
theorem SpT.tick (h : SpT s n x ns ks A1 c1 A2 c2 f1 f2 fp lo g L w W k') (hg : W.grownBy W' (some g)) (hr : RdD W' g L k2) : SpT s n x ns ks A1 c1 A2 c2 f1 f2 fp lo g L w W' k2 := by
  have hgl := h.gl
  have hll := h.ll
  have hgf : ∀ q, some g = some q → q ∉ f1 ++ f2 := fun q e hm => by
    injection e with e
    subst e
    have := (h.hn.fr _ hm).1
    omega
  exact ⟨h.X.grown hg (fun e => by injection e with e; omega), h.Z.grown hg (fun e => by injection e with e; omega), h.ws, h.wn, h.wx,
    Ow.frame _ (fun q hm => hg.block q (h.hn.lt _ (List.mem_append.2 (.inl hm))) (fun e => hgf q e.symm (List.mem_append.2 (.inl hm)))) h.o1,
    Ow.frame _ (fun q hm => hg.block q (h.hn.lt _ (List.mem_append.2 (.inr hm))) (fun e => hgf q e.symm (List.mem_append.2 (.inr hm)))) h.o2,
    h.hn.grown hg hgf, h.hs, h.hf, h.gl, h.ll, hr, only_trans h.gr hg⟩
theorem SpT.below (h : SpT s n x ns ks A1 c1 A2 c2 f1 f2 fp lo g L w W k') (hb : Below W.heap.size W W') : SpT s n x ns ks A1 c1 A2 c2 f1 f2 fp lo g L w W' k' := h.tick (grownBy_below hb (some g)) (h.rd.below hb)
theorem SpT.low (h : SpT s n x ns ks A1 c1 A2 c2 f1 f2 fp lo g L w W k') {B : Nat} (hb : Below B W W') (hB : w.heap.size + 2 ≤ B) (hf : Lt (f1 ++ f2) B) : SpT s n x ns ks A1 c1 A2 c2 f1 f2 fp lo g L w W' k' :=
  have hgl := h.gl
  have hll := h.ll
  ⟨h.X.below hb (by omega), h.Z.below hb (by omega), h.ws, h.wn, h.wx, h.o1.below hb hf.left, h.o2.below hb hf.right, h.hn.below hb hf, h.hs, h.hf, h.gl, h.ll, h.rd.low hb (by omega), only_lowR h.gr hb (by omega)⟩
theorem SpT.frame (h : SpT s n x ns ks A1 c1 A2 c2 f1 f2 fp lo g L w W k') (i : Nat) (v : Value) : Row (W.setCell ⟨w.heap.size, i, none⟩ v) (w.heap.size + 1) 26 [.int .i64 0, .int .i64 0, .string .empty, .slice none 0 0, .slice none 0 0] ∧ Ow (W.setCell ⟨w.heap.size, i, none⟩ v) (.s 1 ns.length (ns.flatMap strC)) (.slice A1 ns.length c1) f1 ∧
    Ow (W.setCell ⟨w.heap.size, i, none⟩ v) (.s 5 ks.length (ks.flatMap Tree.cells)) (.slice A2 ks.length c2) f2 ∧ New (W.setCell ⟨w.heap.size, i, none⟩ v) (f1 ++ f2) lo ∧ RdD (W.setCell ⟨w.heap.size, i, none⟩ v) g L k' ∧ w.grownBy (W.setCell ⟨w.heap.size, i, none⟩ v) (some g) := by
  have hgl := h.gl
  have hll := h.ll
  have hb : Below w.heap.size W (W.setCell ⟨w.heap.size, i, none⟩ v) := (Below.refl _ _).setCell (p := ⟨w.heap.size, i, none⟩) (Nat.le_refl _) _
  exact ⟨h.Z.far (p := ⟨w.heap.size, i, none⟩) (by simp) _, h.o1.setCell (a := ⟨w.heap.size, i, none⟩) (fun hm => h.nobox (List.mem_append_left _ hm)) _, h.o2.setCell (a := ⟨w.heap.size, i, none⟩) (fun hm => h.nobox (List.mem_append_right _ hm)) _, h.hn.setCell _ _, h.rd.low hb (by omega), only_lowR h.gr hb (Nat.le_refl _)⟩
theorem SpT.sets (h : SpT s n x ns ks A1 c1 A2 c2 f1 f2 fp lo g L w W k') {q : Int} (hq : (Lit.int .i64 q).wf = true) : SpT q n x ns ks A1 c1 A2 c2 f1 f2 fp lo g L w (W.setCell ⟨w.heap.size, 0, none⟩ (.int .i64 q)) k' := by
  obtain ⟨a1, a2, a3, a4, a5, a6⟩ := h.frame 0 (.int .i64 q)
  exact ⟨h.X.set 0 _, a1, hq, h.wn, h.wx, a2, a3, a4, h.hs, h.hf, h.gl, h.ll, a5, a6⟩
theorem SpT.setn (h : SpT s n x ns ks A1 c1 A2 c2 f1 f2 fp lo g L w W k') {q : Int} (hq : (Lit.int .i64 q).wf = true) : SpT s q x ns ks A1 c1 A2 c2 f1 f2 fp lo g L w (W.setCell ⟨w.heap.size, 1, none⟩ (.int .i64 q)) k' := by
  obtain ⟨a1, a2, a3, a4, a5, a6⟩ := h.frame 1 (.int .i64 q)
  exact ⟨h.X.set 1 _, a1, h.ws, hq, h.wx, a2, a3, a4, h.hs, h.hf, h.gl, h.ll, a5, a6⟩
theorem SpT.setx (h : SpT s n x ns ks A1 c1 A2 c2 f1 f2 fp lo g L w W k') {q : ByteArray} (hq : q.size ≤ maxLen) : SpT s n q ns ks A1 c1 A2 c2 f1 f2 fp lo g L w (W.setCell ⟨w.heap.size, 2, none⟩ (.string q)) k' := by
  obtain ⟨a1, a2, a3, a4, a5, a6⟩ := h.frame 2 (.string q)
  exact ⟨h.X.set 2 _, a1, h.ws, h.wn, hq, a2, a3, a4, h.hs, h.hf, h.gl, h.ll, a5, a6⟩
theorem SpT.setns (h : SpT s n x ns ks A1 c1 A2 c2 f1 f2 fp lo g L w W k') {ns' : List ByteArray} {A : Option Addr} {c : Nat} {p : List Nat} (ho : Ow W (.s 1 ns'.length (ns'.flatMap strC)) (.slice A ns'.length c) p) (hn : New W p lo) (hp : ∀ b ∈ p, w.heap.size + 2 ≤ b ∧ b ∉ f2) :
    SpT s n x ns' ks A c A2 c2 p f2 fp lo g L w (W.setCell ⟨w.heap.size, 3, none⟩ (.slice A ns'.length c)) k' := by
  obtain ⟨a1, a2, a3, a4, a5, a6⟩ := h.frame 3 (.slice A ns'.length c)
  have hno : w.heap.size ∉ p := fun hm => by have := (hp _ hm).1; omega
  have h2 := h.hn.rightK
  have hnn : New W (p ++ f2) lo := ⟨hn.fr.app h2.fr, List.nodup_append.2 ⟨hn.nd, h2.nd, fun a ha b hb e => by subst e; exact (hp a ha).2 hb⟩, fun b hb => by
    rcases List.mem_append.1 hb with hb | hb
    · exact hn.uf b hb
    · exact h2.uf b hb⟩
  refine ⟨h.X.set 3 _, a1, h.ws, h.wn, h.wx, ho.setCell (a := ⟨w.heap.size, 3, none⟩) hno _, a3, hnn.setCell _ _, fun b hb => ?_, h.hf, h.gl, h.ll, a5, a6⟩
  rcases List.mem_append.1 hb with hb | hb
  · exact .inr (hp b hb).1
  · exact h.hs b (List.mem_append_right _ hb)
theorem SpT.setks (h : SpT s n x ns ks A1 c1 A2 c2 f1 f2 fp lo g L w W k') {ks' : List Tree} {A : Option Addr} {c : Nat} {p : List Nat} (ho : Ow W (.s 5 ks'.length (ks'.flatMap Tree.cells)) (.slice A ks'.length c) p) (hn : New W p lo) (hp : ∀ b ∈ p, (b ∈ fp ∨ w.heap.size + 2 ≤ b) ∧ b ∉ f1) :
    SpT s n x ns ks' A1 c1 A c f1 p fp lo g L w (W.setCell ⟨w.heap.size, 4, none⟩ (.slice A ks'.length c)) k' := by
  obtain ⟨a1, a2, a3, a4, a5, a6⟩ := h.frame 4 (.slice A ks'.length c)
  have hno : w.heap.size ∉ p := fun hm => by
    rcases (hp _ hm).1 with e | e
    · have := h.hf _ e; omega
    · omega
  have h2 := h.hn.leftK
  have hnn : New W (f1 ++ p) lo := ⟨h2.fr.app hn.fr, List.nodup_append.2 ⟨h2.nd, hn.nd, fun a ha b hb e => by subst e; exact (hp a hb).2 ha⟩, fun b hb => by
    rcases List.mem_append.1 hb with hb | hb
    · exact h2.uf b hb
    · exact hn.uf b hb⟩
  refine ⟨h.X.set 4 _, a1, h.ws, h.wn, h.wx, a2, ho.setCell (a := ⟨w.heap.size, 4, none⟩) hno _, hnn.setCell _ _, fun b hb => ?_, h.hf, h.gl, h.ll, a5, a6⟩
  rcases List.mem_append.1 hb with hb | hb
  · exact h.hs b (List.mem_append_left _ hb)
  · exact (hp b hb).1
theorem SpT.fin (h : SpT s n x ns ks A1 c1 A2 c2 f1 f2 fp lo g L w W k') {k0 N M : Nat} (hb : (Tree.mk s n x ns ks).bulk ≤ N) (hk : k' ≤ k0 + M) : SpoilOutT g L k0 N M lo fp w (.returned (.agg ([.int .i64 s, .int .i64 n, .string x, .slice A1 ns.length c1, .slice A2 ks.length c2] : List Value).toArray)) (putN W (w.heap.size + 1) 0 [.int .i64 s, .int .i64 n, .string x, .slice A1 ns.length c1, .slice A2 ks.length c2]) := by
  have hgl := h.gl
  have hll := h.ll
  have hgr := setN_grown [.int .i64 s, .int .i64 n, .string x, .slice A1 ns.length c1, .slice A2 ks.length c2] 0 (grown_refl W (some (w.heap.size + 1)))
  have hb2 : Below w.heap.size W (putN W (w.heap.size + 1) 0 [.int .i64 s, .int .i64 n, .string x, .slice A1 ns.length c1, .slice A2 ks.length c2]) := below_of_grown hgr (by omega) h.gr.size
  refine ⟨.mk s n x ns ks, _, f1 ++ f2, k', rfl, (OwC.mTree (x := .mk s n x ns ks) h.ws h.wn h.wx h.o1 h.o2).grown hgr h.hn.lt h.nores, h.hn.grown hgr (fun b e => by injection e with e; subst e; exact h.nores), fun b hb => (h.hs b hb).imp_right (fun e => by omega), hb, hk, h.rd.low hb2 (by omega), only_lowR h.gr hb2 (Nat.le_refl _)⟩
end
/-- the state without the box and the kids -/
structure SpB (s n : Int) (x : ByteArray) (ns : List ByteArray) (A1 : Option Addr) (c1 : Nat) (f1 fp : List Nat) (lo g : Nat) (L : List UInt8) (w W : World) (k' : Nat) : Prop where
  Z : Row W (w.heap.size + 1) 26 [.int .i64 0, .int .i64 0, .string .empty, .slice none 0 0, .slice none 0 0]
  ws : (Lit.int .i64 s).wf = true
  wn : (Lit.int .i64 n).wf = true
  wx : x.size ≤ maxLen
  o1 : Ow W (.s 1 ns.length (ns.flatMap strC)) (.slice A1 ns.length c1) f1
  hn : New W f1 lo
  hs : ∀ b ∈ f1, b ∈ fp ∨ w.heap.size + 2 ≤ b
  hf : Lt fp w.heap.size
  gl : g < lo
  ll : lo ≤ w.heap.size
  rd : RdD W g L k'
  gr : w.grownBy W (some g)
section
variable {s n : Int} {x : ByteArray} {ns : List ByteArray} {ks : List Tree} {A1 : Option Addr} {c1 : Nat} {A2 : Option Addr} {c2 : Nat} {f1 f2 fp : List Nat} {lo g : Nat} {L : List UInt8} {w W W' : World} {k' k2 : Nat}
theorem SpT.toB (h : SpT s n x ns ks A1 c1 A2 c2 f1 f2 fp lo g L w W k') : SpB s n x ns A1 c1 f1 fp lo g L w W k' := ⟨h.Z, h.ws, h.wn, h.wx, h.o1, h.hn.leftK, fun b hb => h.hs b (List.mem_append_left _ hb), h.hf, h.gl, h.ll, h.rd, h.gr⟩
theorem SpB.low (h : SpB s n x ns A1 c1 f1 fp lo g L w W k') {B : Nat} (hb : Below B W W') (hB : w.heap.size + 2 ≤ B) (hf : Lt f1 B) : SpB s n x ns A1 c1 f1 fp lo g L w W' k' :=
  have hgl := h.gl
  have hll := h.ll
  ⟨h.Z.below hb (by omega), h.ws, h.wn, h.wx, h.o1.below hb hf, h.hn.below hb hf, h.hs, h.hf, h.gl, h.ll, h.rd.low hb (by omega), only_lowR h.gr hb (by omega)⟩
theorem SpB.put (h : SpB s n x ns A1 c1 f1 fp lo g L w W k') (i : Nat) (v : Value) : SpB s n x ns A1 c1 f1 fp lo g L w (W.setCell ⟨w.heap.size, i, none⟩ v) k' := by
  have hgl := h.gl
  have hll := h.ll
  have hno : w.heap.size ∉ f1 := fun hm => by
    rcases h.hs _ hm with e | e
    · have := h.hf _ e; omega
    · omega
  have hb : Below w.heap.size W (W.setCell ⟨w.heap.size, i, none⟩ v) := (Below.refl _ _).setCell (p := ⟨w.heap.size, i, none⟩) (Nat.le_refl _) _
  exact ⟨h.Z.far (p := ⟨w.heap.size, i, none⟩) (by simp) _, h.ws, h.wn, h.wx, h.o1.setCell (a := ⟨w.heap.size, i, none⟩) hno _, h.hn.setCell _ _, h.hs, h.hf, h.gl, h.ll, h.rd.low hb (by omega), only_lowR h.gr hb (Nat.le_refl _)⟩
theorem SpB.toT (h : SpB s n x ns A1 c1 f1 fp lo g L w W k') {p : List Nat} (hx : Row W w.heap.size 26 [.int .i64 s, .int .i64 n, .string x, .slice A1 ns.length c1, .slice A2 ks.length c2]) (ho : Ow W (.s 5 ks.length (ks.flatMap Tree.cells)) (.slice A2 ks.length c2) p) (hn : New W p lo) (hp : ∀ b ∈ p, w.heap.size + 2 ≤ b ∧ b ∉ f1) :
    SpT s n x ns ks A1 c1 A2 c2 f1 p fp lo g L w W k' := by
  refine ⟨hx, h.Z, h.ws, h.wn, h.wx, h.o1, ho, ⟨h.hn.fr.app hn.fr, List.nodup_append.2 ⟨h.hn.nd, hn.nd, fun a ha b hb e => by subst e; exact (hp a hb).2 ha⟩, fun b hb => ?_⟩, fun b hb => ?_, h.hf, h.gl, h.ll, h.rd, h.gr⟩
  · rcases List.mem_append.1 hb with hb | hb
    · exact h.hn.uf b hb
    · exact hn.uf b hb
  · rcases List.mem_append.1 hb with hb | hb
    · exact h.hs b hb
    · exact .inr (hp b hb).1
end
theorem wf8T {q : Nat} (h : q < 8) : (Lit.int .i64 (q : Int)).wf = true := by
  obtain rfl | rfl | rfl | rfl | rfl | rfl | rfl | rfl : q = 0 ∨ q = 1 ∨ q = 2 ∨ q = 3 ∨ q = 4 ∨ q = 5 ∨ q = 6 ∨ q = 7 := by omega
  all_goals decide
theorem num0_ow (W : World) : OwC W ([Tree.mk 1 0 .empty [] []].flatMap Tree.cells) [.int .i64 1, .int .i64 0, .string .empty, .slice none 0 0, .slice none 0 0] [] := by rw [List.flatMap_singleton]; exact tleaf_ow W (by decide) (by decide) (by decide)
end Go.Proofs.YtnaecdoeldoipaaGreatDoor
set_option linter.unusedVariables false
set_option linter.unusedSimpArgs false
namespace Go.Proofs.YtnaecdoeldoipaaGreatDoor
open Go.ChangeShapes Go.WideShapes Go.ChangeAt Go.RowKit

set_option maxRecDepth 100000 in
set_option maxHeartbeats 4000000 in
theorem spoilT_of (s n : Int) (x : ByteArray) (ns : List ByteArray) (ks : List Tree) (ih : ∀ y ∈ ks, SpoilTr y) : SpoilTr (.mk s n x ns ks) := by
  intro us fp L k g lo w ho hn hgl hlo hr hb hk
  obtain ⟨A1, c1, A2, c2, f1, f2, rfl, w0, w1, w2, o1, o2, rfl⟩ := ho.oTree
  simp only [Tree.sort, Tree.num, Tree.text, Tree.names, Tree.kids] at w0 w1 w2 o1 o2 ⊢
  have hgw := hr.lt
  have hf := hn.lt
  obtain ⟨N, hN⟩ : ∃ N, (Tree.mk s n x ns ks).bulk = N := ⟨_, rfl⟩
  rw [hN] at hb hk ⊢
  have HN := hide hN
  have HBK := hide (show N = x.size + bulkStrs ns + ks.length + Tree.bulkS ks from by rw [← hN, Tree.bulk_mk])
  obtain ⟨-, hn1, hm1⟩ := o1.nlen
  obtain ⟨-, hn2, hm2⟩ := o2.nlen
  unfold maxLen at hm1 hm2
  have hkl6 : ks.length ≤ 1000000 := by have := HBK.out; omega
  have hnl6 : ns.length ≤ 1000000 := by have := HBK.out; unfold bulkStrs at this; omega
  have HI := hide ih
  have HNW := hide hn
  have HR := hide hr
  have O1 := hide o1
  have O2 := hide o2
  clear hN ho ih hn hr o1 o2
  go_enter Tryz.func55, Tryz.ntmps55
  go_upto_region 1 with fail
  generalize hw1 : World.alloc _ _ = w1_
  have hb0 : Below w.heap.size w w1_ := by rw [← hw1]; exact ((Below.refl _ _).alloc (Nat.le_refl _) _).alloc (by simp) _
  have HS := hide (show SpT s n x ns ks A1 c1 A2 c2 f1 f2 (f1 ++ f2) lo g L w w1_ k from
    ⟨by rw [← hw1]; exact (Row.new w _ _).alloc _, by
      rw [← hw1]
      have h := Row.new (w.alloc (.cells #[.int .i64 s, .int .i64 n, .string x, .slice A1 ns.length c1, .slice A2 ks.length c2] 26)) 26 [.int .i64 0, .int .i64 0, .string .empty, .slice none 0 0, .slice none 0 0]
      rw [World.size_alloc] at h
      exact h, w0, w1, w2, O1.out.below hb0 hf.left, O2.out.below hb0 hf.right, HNW.out.below hb0 hf, fun b hb => .inl hb, hf, hgl, hlo, HR.out.below hb0, grownBy_below hb0 (some g)⟩)
  clear hw1 hb0 O1 O2 HNW HR w0 w1 w2
  have b4 := HS.out.X.cell 4
  have bl_ := HS.out.X.lt
  go_cut [16] from 8 to 17 (fun s16 wx => ∃ (b : Bool) (k1 : Nat), s16 = .bool b ∧ (b = true → 0 < ks.length) ∧ k1 ≤ k + 1 ∧ SpT s n x ns ks A1 c1 A2 c2 f1 f2 (f1 ++ f2) lo g L w wx k1)
  case first =>
    by_cases h0 : ks.length = 0
    · have h0i : ¬ ((0 : Int) < (ks.length : Int)) := by omega
      clear h0
      go_wp2_with fail
      go_meet
      exact ⟨false, k, rfl, (fun h => by cases h), by omega, HS.out⟩
    · have h0i : (0 : Int) < (ks.length : Int) := by omega
      have H0 := hide h0
      clear h0
      have HP := hide (pick_any HS.out.rd (n := 3) (by omega) (by omega) (by omega))
      go_wp2_with fail
      refine HP.out.mono ?_
      rintro e w5 ⟨r3, rfl, hr3, h5, hg5⟩
      go_wp2_with fail
      go_meet
      exact ⟨_, k + 1, rfl, fun _ => by have := H0.out; omega, Nat.le_refl _, HS.out.tick hg5 h5⟩
  clear b4 bl_ HS
  obtain ⟨bb, k1, rfl, hbb, hk1, hs⟩ := hcut
  obtain ⟨w2, rfl⟩ : ∃ W, W = wc := ⟨_, rfl⟩
  have HS := hide hs
  clear hs
  obtain ⟨ia, hia, ja0, ja1, ja2⟩ := info_parts info_strR
  have HIa := hide hia
  obtain ⟨ib, hib, jb0, jb1, jb2⟩ := info_parts info_TreeR
  have HIb := hide hib
  clear hia hib
  rcases bb with _ | _
  rotate_left
  · have hkl : 0 < ks.length := hbb rfl
    clear hbb
    have hl3 : w.heap.size + 2 ≤ w2.heap.size := HS.out.Z.lt
    have hAA : Below w2.heap.size w2 (w2.alloc (.cells #[] 26)) := (Below.refl _ _).alloc (Nat.le_refl _) _
    obtain ⟨usk, fk, hok, hsk, hsub, hnk⟩ := (HS.out.o2.below hAA HS.out.hn.rightK.lt).srcNew (HS.out.hn.rightK.alloc _)
    have HE := hide (OwS.emptyL (f := Tree.cells) w2 lo (by omega) 26 5)
    have HNO := hide (show ∀ q, (Value.slice (some ⟨w2.heap.size, 0, none⟩) 0 0).ownBlock = some q → q ∉ fk from fun q e hm => by
      have e2 : w2.heap.size = q := by simpa [Value.ownBlock] using e
      have := HS.out.hn.rightK.lt _ (hsub hm)
      omega)
    have HOK := hide hok
    have HSK := hide hsk
    have HSUB := hide hsub
    have HNK := hide (show New (w2.alloc (.cells #[] 26)) ([] ++ fk) lo from hnk)
    have HAA := hide hAA
    clear hok hsk hnk hAA hsub
    have b4 := HS.out.X.cell 4
    have bl_ := HS.out.X.lt
    go_wp2_with (first
      | (at_builtin; refine wpl_app rfl _ _ 24 rfl ib _ 80 Tryz.underlying24 HIb.out jb0 jb1 jb2 rfl (by decide) Tree.cells_len rfl HE.out ks HOK.out HNK.out HNO.out _ _ _ rfl rfl HSK.out (by simp; omega) (by decide) (by rw [World.size_alloc]; omega) ?_; intro A5 n5 c5 w5 hn5 hown5 hgb5; have hgb6 : GB (w2.alloc (.cells #[] 26)) w5 (.slice (some ⟨w2.heap.size, 0, none⟩) 0 0) (.slice A5 n5 c5) := hgb5; have hown6 : OwS w5 lo 26 5 Tree.cells (.slice A5 n5 c5) ks usk fk := hown5; have HB5 := hide (HAA.out.trans (hgb6.toBelow (B := w2.heap.size) (by rw [World.size_alloc]; omega) (fun q e => by (have e2 : w2.heap.size = q := by simpa [Value.ownBlock] using e); omega))); have HGE5 := hide (fun q (e : (Value.slice A5 n5 c5).ownBlock = some q) => show w2.heap.size ≤ q from hgb6.from (B := w2.heap.size) (by rw [World.size_alloc]; omega) (fun q e => by (have e2 : w2.heap.size = q := by simpa [Value.ownBlock] using e); omega) q e); have HS5 := hide (HS.out.below HB5.out); have HO5 := hide hown6; have HN5 := hide hn5; clear hown5 hown6 hgb5 hgb6 hn5)
      | fail)
    obtain rfl : n5 = ks.length := by have := HN5.out; simpa using this
    have HP := hide (pick_any HS5.out.rd (n := ks.length) (by omega) (by omega) (by omega))
    go_wp2_with fail
    refine HP.out.mono ?_
    rintro e w6 ⟨i, rfl, hi, h6, hg6⟩
    have HS6 := hide (HS5.out.tick hg6 h6)
    have HO6 := hide (HO5.out.kept hg6 (fun q e => by injection e with e; subst e; exact ⟨HO5.out.nlow hgl, HO5.out.low hgl⟩))
    obtain ⟨g5, rfl, -, hg5lo, hg5lt⟩ := HO6.out.block hkl
    have hg5 : w2.heap.size ≤ g5 := HGE5.out g5 rfl
    obtain ⟨l1, y, l2, hsplit, hl1⟩ := sp_split_at ks i hi
    have hc := HO6.out.cells
    rw [hsplit, List.flatMap_append, List.flatMap_cons] at hc
    obtain ⟨u1, u9, p1, p9, rfl, rfl, hc1, hc9, hu1⟩ := hc.splitK
    obtain ⟨u0, u2, p0, p2, rfl, rfl, hc0, hc2, hu0⟩ := hc9.splitK
    have hy5 : u0.length = 5 := by rw [hu0, Tree.cells_len]
    have hu1i : u1.length = i * 5 := by rw [hu1, flat_len Tree.cells 5 Tree.cells_len, hl1]
    obtain ⟨q0, q1, q2, q3, q4, rfl⟩ : ∃ a b c d e, u0 = [a, b, c, d, e] := by
      match u0, hy5 with
      | [a, b, c, d, e], _ => exact ⟨a, b, c, d, e, rfl⟩
    have k0c : w6.cell? ⟨g5, i * 5, none⟩ = some q0 := (HO6.out.cellAt (j := i * 5 + 0) (by rw [← hu1i, List.getElem?_append_right (by omega)]; simp)).1
    have k1c : w6.cell? ⟨g5, i * 5 + 1, none⟩ = some q1 := (HO6.out.cellAt (j := i * 5 + 1) (by rw [← hu1i, List.getElem?_append_right (by omega)]; simp)).1
    have k2c : w6.cell? ⟨g5, i * 5 + 2, none⟩ = some q2 := (HO6.out.cellAt (j := i * 5 + 2) (by rw [← hu1i, List.getElem?_append_right (by omega)]; simp)).1
    have k3c : w6.cell? ⟨g5, i * 5 + 3, none⟩ = some q3 := (HO6.out.cellAt (j := i * 5 + 3) (by rw [← hu1i, List.getElem?_append_right (by omega)]; simp)).1
    have k4c : w6.cell? ⟨g5, i * 5 + 4, none⟩ = some q4 := (HO6.out.cellAt (j := i * 5 + 4) (by rw [← hu1i, List.getElem?_append_right (by omega)]; simp)).1
    have HC1 := hide hc1
    have HC2 := hide hc2
    have HSP := hide hsplit
    have HU1 := hide hu1i
    have hN0 : New w6 p0 lo := (HO6.out.new.rightK).leftK
    have HLT6 := hide (show Lt (p1 ++ (p0 ++ p2)) w6.heap.size from HO6.out.new.lt)
    have hw26 : w2.heap.size ≤ w6.heap.size := Nat.le_trans HB5.out.size hg6.size
    have hyb : y.bulk + 1 ≤ N := by
      have h := HBK.out
      rw [hsplit, Tree.bulkS_append] at h
      simp only [Tree.bulkS, List.length_append, List.length_cons] at h
      omega
    have HK := hide (HI.out y (by rw [hsplit]; simp) [q0, q1, q2, q3, q4] p0 L (k1 + 1) g lo w6 hc0 hN0 hgl (Nat.le_trans (by omega) (Nat.le_of_lt HS6.out.Z.lt)) HS6.out.rd (by omega) (by omega))
    have hii : (i : Int) < (ks.length : Int) := by omega
    clear hsplit hc hc9 hc1 hc2 hc0 h6 hg6 HP HS5 HO5 hN0 HE HNO HOK HSK HNK hu1 hu0 b4 bl_ hu1i hi hl1
    go_upto_region 4 with fail
    go_wp2_with fail
    refine HK.out.mono ?_
    rintro e w7 ⟨y7, us7, fq7, k7, rfl, ho7, hn7, hs7, hb7, hk7, hr7, hg7⟩
    have HO7 := hide ho7
    have HN7 := hide hn7
    have HF7 := hide hs7
    have HS7 := hide (HS6.out.tick hg7 hr7)
    have HG7 := hide (HO6.out.kept hg7 (fun q e => by injection e with e; subst e; exact ⟨HO6.out.nlow hgl, HO6.out.low hgl⟩))
    have hgn : ∀ q, some g = some q → q ∉ p1 ++ (p0 ++ p2) := fun q e => by injection e with e; subst e; exact HO6.out.nlow hgl
    have HC71 := hide (HC1.out.grown' hg7 (fun b hb => HO6.out.new.lt b (by simp [hb])) (fun q e hm => hgn q e (by simp [hm])))
    have HC72 := hide (HC2.out.grown' hg7 (fun b hb => HO6.out.new.lt b (by simp [hb])) (fun q e hm => hgn q e (by simp [hm])))
    obtain ⟨E1, e1, E2, e2, r1, r2, rfl, -, -, -, -, -, -⟩ := ho7.oTree
    obtain ⟨v0, hv0, fv0⟩ : ∃ v, w7.cell? ⟨g5, i * 5, none⟩ = some v ∧ w7.frozen? ⟨g5, i * 5, none⟩ = false := ⟨q0, (HG7.out.cellAt (j := i * 5 + 0) (u := q0) (by rw [← HU1.out, List.getElem?_append_right (by omega)]; simp)).1, (HG7.out.cellAt (j := i * 5 + 0) (u := q0) (by rw [← HU1.out, List.getElem?_append_right (by omega)]; simp)).2.1⟩
    obtain ⟨v1, hv1, fv1⟩ : ∃ v, w7.cell? ⟨g5, i * 5 + 1, none⟩ = some v ∧ w7.frozen? ⟨g5, i * 5 + 1, none⟩ = false := ⟨q1, (HG7.out.cellAt (j := i * 5 + 1) (u := q1) (by rw [← HU1.out, List.getElem?_append_right (by omega)]; simp)).1, (HG7.out.cellAt (j := i * 5 + 1) (u := q1) (by rw [← HU1.out, List.getElem?_append_right (by omega)]; simp)).2.1⟩
    obtain ⟨v2, hv2, fv2⟩ : ∃ v, w7.cell? ⟨g5, i * 5 + 2, none⟩ = some v ∧ w7.frozen? ⟨g5, i * 5 + 2, none⟩ = false := ⟨q2, (HG7.out.cellAt (j := i * 5 + 2) (u := q2) (by rw [← HU1.out, List.getElem?_append_right (by omega)]; simp)).1, (HG7.out.cellAt (j := i * 5 + 2) (u := q2) (by rw [← HU1.out, List.getElem?_append_right (by omega)]; simp)).2.1⟩
    obtain ⟨v3, hv3, fv3⟩ : ∃ v, w7.cell? ⟨g5, i * 5 + 3, none⟩ = some v ∧ w7.frozen? ⟨g5, i * 5 + 3, none⟩ = false := ⟨q3, (HG7.out.cellAt (j := i * 5 + 3) (u := q3) (by rw [← HU1.out, List.getElem?_append_right (by omega)]; simp)).1, (HG7.out.cellAt (j := i * 5 + 3) (u := q3) (by rw [← HU1.out, List.getElem?_append_right (by omega)]; simp)).2.1⟩
    obtain ⟨v4, hv4, fv4⟩ : ∃ v, w7.cell? ⟨g5, i * 5 + 4, none⟩ = some v ∧ w7.frozen? ⟨g5, i * 5 + 4, none⟩ = false := ⟨q4, (HG7.out.cellAt (j := i * 5 + 4) (u := q4) (by rw [← HU1.out, List.getElem?_append_right (by omega)]; simp)).1, (HG7.out.cellAt (j := i * 5 + 4) (u := q4) (by rw [← HU1.out, List.getElem?_append_right (by omega)]; simp)).2.1⟩
    have hg7lt : g5 < w7.heap.size := Nat.lt_of_lt_of_le hg5lt hg7.size
    have hw67 : w6.heap.size ≤ w7.heap.size := hg7.size
    clear ho7 hn7 hs7 hr7 hg7 k0c k1c k2c k3c k4c HK HS6 HO6 HC1 HC2
    go_upto_region 5 with fail
    generalize hw8 : World.setCell (World.setCell (World.setCell (World.setCell (World.setCell w7 _ _) _ _) _ _) _ _) _ _ = w8
    have hput : putN w7 g5 u1.length [.int .i64 y7.sort, .int .i64 y7.num, .string y7.text, .slice E1 y7.names.length e1, .slice E2 y7.kids.length e2] = w8 := by rw [HU1.out]; exact hw8
    have hG : OwS w7 lo 26 5 Tree.cells (.slice (some ⟨g5, 0, none⟩) ks.length c5) (l1 ++ y :: l2) (u1 ++ ([q0, q1, q2, q3, q4] ++ u2)) (p1 ++ (p0 ++ p2)) := by rw [← HSP.out]; exact HG7.out
    have hP := hG.putAt5 HC71.out HC72.out rfl HO7.out rfl HN7.out (fun b hb => by
      rcases HF7.out b hb with h | h
      · exact .inl h
      · exact .inr ⟨fun hm => (by have := HLT6.out b (by simp [hm]); omega), fun hm => (by have := HLT6.out b (by simp [hm]); omega), by omega⟩)
    rw [hput] at hP
    have hgr8 : w7.grownBy w8 (some g5) := by rw [← hput]; exact setN_grown _ _ (grown_refl _ _)
    have hl3' : w.heap.size + 2 ≤ g5 := by omega
    have HS8 := hide (HS7.out.low (below_of_grown hgr8 (Nat.le_refl _) (by omega)) hl3' (hf.mono (by omega)))
    obtain ⟨pf, of_, nf, sf⟩ := hP.toOw'
    have hlen : (l1 ++ y7 :: l2).length = ks.length := by rw [HSP.out]; simp
    have HPF := hide (show ∀ b ∈ pf, (b ∈ f1 ++ f2 ∨ w.heap.size + 2 ≤ b) ∧ b ∉ f1 from fun b hb => by
      have hd := fun (h1 : b ∈ f1) (h2 : b ∈ p1 ++ (p0 ++ p2)) => (List.nodup_append.1 HS8.out.hn.nd).2.2 b h1 b (HSUB.out h2) rfl
      rcases sf b hb with h | h
      · have e2 : g5 = b := by simpa [Value.ownBlock] using h
        exact ⟨.inr (by omega), fun hm => by have := hf.left b hm; omega⟩
      · simp only [List.mem_append] at h
        rcases h with h | h | h
        · exact ⟨.inl (List.mem_append.2 (.inr (HSUB.out (by simp [h])))), fun hm => hd hm (by simp [h])⟩
        · rcases HF7.out b h with h | h
          · exact ⟨.inl (List.mem_append.2 (.inr (HSUB.out (by simp [h])))), fun hm => hd hm (by simp [h])⟩
          · exact ⟨.inr (by omega), fun hm => by have := hf.left b hm; omega⟩
        · exact ⟨.inl (List.mem_append.2 (.inr (HSUB.out (by simp [h])))), fun hm => hd hm (by simp [h])⟩)
    rw [← hlen] at of_
    have HOF := hide of_
    have HNF := hide nf
    have HLEN := hide hlen
    clear hw8 hput hG hP hgr8 HS7 HG7 HC71 HC72 HO7 HN7 hv0 hv1 hv2 hv3 hv4 fv0 fv1 fv2 fv3 fv4 of_ nf sf hlen
    have b4 := HS8.out.X.cell 4
    have b4f := HS8.out.X.frozen 4
    have bl_ := HS8.out.X.lt
    go_upto_region 6 with fail
    generalize hw9 : World.setCell _ _ _ = w9
    have HS9 := hide (show SpT s n x ns (l1 ++ y7 :: l2) A1 c1 (some ⟨g5, 0, none⟩) c5 f1 pf (f1 ++ f2) lo g L w w9 k7 from by
      rw [← hw9]
      have h := HS8.out.setks HOF.out HNF.out HPF.out
      rw [HLEN.out] at h
      exact h)
    clear hw9 HS8 b4 b4f bl_ HOF HNF HPF
    obtain ⟨kz, hkz⟩ : ∃ q, l1 ++ y7 :: l2 = q := ⟨_, rfl⟩
    rw [hkz] at HS9
    have HKZ := hide hkz
    clear hkz
    have b0 := HS9.out.X.cell 0
    have bf0 := HS9.out.X.frozen 0
    have b1 := HS9.out.X.cell 1
    have bf1 := HS9.out.X.frozen 1
    have b2 := HS9.out.X.cell 2
    have bf2 := HS9.out.X.frozen 2
    have b3 := HS9.out.X.cell 3
    have bf3 := HS9.out.X.frozen 3
    have b4 := HS9.out.X.cell 4
    have bf4 := HS9.out.X.frozen 4
    have bl := HS9.out.X.lt
    have r0 := HS9.out.Z.cell 0
    have rf0 := HS9.out.Z.frozen 0
    have r1 := HS9.out.Z.cell 1
    have rf1 := HS9.out.Z.frozen 1
    have r2 := HS9.out.Z.cell 2
    have rf2 := HS9.out.Z.frozen 2
    have r3 := HS9.out.Z.cell 3
    have rf3 := HS9.out.Z.frozen 3
    have r4 := HS9.out.Z.cell 4
    have rf4 := HS9.out.Z.frozen 4
    have rl := HS9.out.Z.lt
    go_wp2
    refine bodyPost_ret (ret_row rfl _ _ (w.heap.size + 1) 26 [.int .i64 s, .int .i64 n, .string x, .slice A1 ns.length c1, .slice (some ⟨g5, 0, none⟩) kz.length c5] (HS9.out.Z.setAll [.int .i64 s, .int .i64 n, .string x, .slice A1 ns.length c1, .slice (some ⟨g5, 0, none⟩) kz.length c5] rfl) _ rfl Tryz.underlying26 rfl (by kernel_rfl)) rfl ?_
    exact HS9.out.fin (by rw [Tree.bulk_mk, ← HKZ.out]; have h := HBK.out; rw [HSP.out] at h; simp only [Tree.bulkS_append, Tree.bulkS, List.length_append, List.length_cons] at h ⊢; omega) (by omega)
  clear hbb
  have HP := hide (pick_any HS.out.rd (n := 8) (by omega) (by omega) (by omega))
  go_wp2_with fail
  refine HP.out.mono ?_
  rintro e w3 ⟨v, rfl, hv, h3, hg3⟩
  have HT := hide (HS.out.tick hg3 h3)
  clear HP HS h3 hg3
  have hv8 : v = 0 ∨ v = 1 ∨ v = 2 ∨ v = 3 ∨ v = 4 ∨ v = 5 ∨ v = 6 ∨ v = 7 := by omega
  clear hv
  rcases hv8 with rfl | rfl | rfl | rfl | rfl | rfl | rfl | rfl
  · skip
    have HP := hide (pick_any HT.out.rd (n := 8) (by omega) (by omega) (by omega))
    go_wp2_with fail
    refine HP.out.mono ?_
    rintro e w4 ⟨q, rfl, hq, h4, hg4⟩
    have HU := hide (HT.out.tick hg4 h4)
    clear HP HT h4 hg4
    have b0 := HU.out.X.cell 0
    have bf0 := HU.out.X.frozen 0
    have bl_ := HU.out.X.lt
    go_upto_region 28 with fail
    generalize hwz : World.setCell _ _ _ = wz
    have HW := hide (show SpT q n x ns ks A1 c1 A2 c2 f1 f2 (f1 ++ f2) lo g L w wz (k1 + 1 + 1) from by rw [← hwz]; exact HU.out.sets (wf8T hq))
    clear hwz HU b0 bf0 bl_
    have b0 := HW.out.X.cell 0
    have bf0 := HW.out.X.frozen 0
    have b1 := HW.out.X.cell 1
    have bf1 := HW.out.X.frozen 1
    have b2 := HW.out.X.cell 2
    have bf2 := HW.out.X.frozen 2
    have b3 := HW.out.X.cell 3
    have bf3 := HW.out.X.frozen 3
    have b4 := HW.out.X.cell 4
    have bf4 := HW.out.X.frozen 4
    have bl := HW.out.X.lt
    have r0 := HW.out.Z.cell 0
    have rf0 := HW.out.Z.frozen 0
    have r1 := HW.out.Z.cell 1
    have rf1 := HW.out.Z.frozen 1
    have r2 := HW.out.Z.cell 2
    have rf2 := HW.out.Z.frozen 2
    have r3 := HW.out.Z.cell 3
    have rf3 := HW.out.Z.frozen 3
    have r4 := HW.out.Z.cell 4
    have rf4 := HW.out.Z.frozen 4
    have rl := HW.out.Z.lt
    go_wp2
    refine bodyPost_ret (ret_row rfl _ _ (w.heap.size + 1) 26 [.int .i64 (q : Int), .int .i64 n, .string x, .slice A1 ns.length c1, .slice A2 ks.length c2] (HW.out.Z.setAll [.int .i64 (q : Int), .int .i64 n, .string x, .slice A1 ns.length c1, .slice A2 ks.length c2] rfl) _ rfl Tryz.underlying26 rfl (by kernel_rfl)) rfl ?_
    exact HW.out.fin (by rw [Tree.bulk_mk]; have := HBK.out; omega) (by omega)
  · skip
    have hAA : Below w3.heap.size w3 (w3.alloc (.cells #[.int .i64 1, .int .i64 2, .int .i64 (-1), .int .i64 1000000000, .int .i64 (-1000000000)] 3)) := (Below.refl _ _).alloc (Nat.le_refl _) _
    have HA := hide (HT.out.below hAA)
    have hR := Row.new w3 3 [.int .i64 1, .int .i64 2, .int .i64 (-1), .int .i64 1000000000, .int .i64 (-1000000000)]
    have HRW := hide hR
    have HP := hide (pick_any HA.out.rd (n := 5) (by omega) (by omega) (by omega))
    have hz3 : w.heap.size + 1 < w3.heap.size := HT.out.Z.lt
    clear hAA hR
    go_wp2_with fail
    refine HP.out.mono ?_
    rintro e w4 ⟨q, rfl, hq, h4, hg4⟩
    have HU := hide (HA.out.tick hg4 h4)
    have hrow := HRW.out.grown hg4 (fun e => by injection e with e; omega)
    obtain ⟨v, hv, hv1, hv2⟩ : ∃ v : Int, w4.cell? ⟨w3.heap.size, q, none⟩ = some (.int .i64 v) ∧ -1000000000 ≤ v ∧ v ≤ 1000000000 := by
      rw [hrow.cell]
      obtain rfl | rfl | rfl | rfl | rfl : q = 0 ∨ q = 1 ∨ q = 2 ∨ q = 3 ∨ q = 4 := by omega
      · exact ⟨1, rfl, by omega, by omega⟩
      · exact ⟨2, rfl, by omega, by omega⟩
      · exact ⟨-1, rfl, by omega, by omega⟩
      · exact ⟨1000000000, rfl, by omega, by omega⟩
      · exact ⟨-1000000000, rfl, by omega, by omega⟩
    have hql : w3.heap.size < w4.heap.size := hrow.lt
    have hq5 : (q : Int) < 5 := by omega
    clear HP HT HA h4 hg4 hrow HRW
    have b1 := HU.out.X.cell 1
    have bf1 := HU.out.X.frozen 1
    have bl_ := HU.out.X.lt
    go_upto_region 28 with fail
    generalize hwz : World.setCell _ _ _ = wz
    have HW := hide (show SpT s v x ns ks A1 c1 A2 c2 f1 f2 (f1 ++ f2) lo g L w wz (k1 + 1 + 1) from by rw [← hwz]; exact HU.out.setn (wfiR (by omega) (by omega)))
    clear hwz HU b1 bf1 bl_ hv hql
    have b0 := HW.out.X.cell 0
    have bf0 := HW.out.X.frozen 0
    have b1 := HW.out.X.cell 1
    have bf1 := HW.out.X.frozen 1
    have b2 := HW.out.X.cell 2
    have bf2 := HW.out.X.frozen 2
    have b3 := HW.out.X.cell 3
    have bf3 := HW.out.X.frozen 3
    have b4 := HW.out.X.cell 4
    have bf4 := HW.out.X.frozen 4
    have bl := HW.out.X.lt
    have r0 := HW.out.Z.cell 0
    have rf0 := HW.out.Z.frozen 0
    have r1 := HW.out.Z.cell 1
    have rf1 := HW.out.Z.frozen 1
    have r2 := HW.out.Z.cell 2
    have rf2 := HW.out.Z.frozen 2
    have r3 := HW.out.Z.cell 3
    have rf3 := HW.out.Z.frozen 3
    have r4 := HW.out.Z.cell 4
    have rf4 := HW.out.Z.frozen 4
    have rl := HW.out.Z.lt
    go_wp2
    refine bodyPost_ret (ret_row rfl _ _ (w.heap.size + 1) 26 [.int .i64 s, .int .i64 v, .string x, .slice A1 ns.length c1, .slice A2 ks.length c2] (HW.out.Z.setAll [.int .i64 s, .int .i64 v, .string x, .slice A1 ns.length c1, .slice A2 ks.length c2] rfl) _ rfl Tryz.underlying26 rfl (by kernel_rfl)) rfl ?_
    exact HW.out.fin (by rw [Tree.bulk_mk]; have := HBK.out; omega) (by omega)
  · skip
    have HM := hide (many_any ⟨#[120]⟩ 61 w3 (by decide) (by omega))
    go_wp2_with fail
    refine HM.out.mono ?_
    rintro e w4 ⟨o, rfl, ho, hw4⟩
    rw [hw4]
    clear hw4 w4 HM
    have hAA : Below w3.heap.size w3 (w3.alloc (.cells #[.string ⟨#[120]⟩, .string ⟨#[34]⟩, .string ⟨#[10]⟩, .string o, .string ⟨#[127]⟩] 9)) := (Below.refl _ _).alloc (Nat.le_refl _) _
    have HA := hide (HT.out.below hAA)
    have hz3 : w.heap.size + 1 < w3.heap.size := HT.out.Z.lt
    have HOF := hide (of_any HA.out.rd (by omega) [⟨#[120]⟩, ⟨#[34]⟩, ⟨#[10]⟩, o, ⟨#[127]⟩] w3.heap.size 5 (by simp) (by simp) (by omega) (by rw [World.size_alloc]; omega) (fun j hj => by
      have h := (Row.new w3 9 [.string ⟨#[120]⟩, .string ⟨#[34]⟩, .string ⟨#[10]⟩, .string o, .string ⟨#[127]⟩]).cell j
      refine h.trans ?_
      have hj5 : j < 5 := hj
      obtain rfl | rfl | rfl | rfl | rfl : j = 0 ∨ j = 1 ∨ j = 2 ∨ j = 3 ∨ j = 4 := by omega
      all_goals rfl))
    clear hAA HT
    go_wp2_with fail
    refine HOF.out.mono ?_
    rintro e w4 ⟨q, hq, rfl, h4, hg4⟩
    have hqs : q.size ≤ 61 := by
      simp only [List.mem_cons, List.not_mem_nil, or_false] at hq
      rcases hq with rfl | rfl | rfl | rfl | rfl
      · decide
      · decide
      · decide
      · omega
      · decide
    have HU := hide (HA.out.tick hg4 h4)
    clear HOF HA h4 hg4 hq
    have b2 := HU.out.X.cell 2
    have bf2 := HU.out.X.frozen 2
    have bl_ := HU.out.X.lt
    go_upto_region 28 with fail
    generalize hwz : World.setCell _ _ _ = wz
    have HW := hide (show SpT s n q ns ks A1 c1 A2 c2 f1 f2 (f1 ++ f2) lo g L w wz (k1 + 1 + 1) from by rw [← hwz]; exact HU.out.setx (by unfold maxLen; omega))
    clear hwz HU b2 bf2 bl_
    have b0 := HW.out.X.cell 0
    have bf0 := HW.out.X.frozen 0
    have b1 := HW.out.X.cell 1
    have bf1 := HW.out.X.frozen 1
    have b2 := HW.out.X.cell 2
    have bf2 := HW.out.X.frozen 2
    have b3 := HW.out.X.cell 3
    have bf3 := HW.out.X.frozen 3
    have b4 := HW.out.X.cell 4
    have bf4 := HW.out.X.frozen 4
    have bl := HW.out.X.lt
    have r0 := HW.out.Z.cell 0
    have rf0 := HW.out.Z.frozen 0
    have r1 := HW.out.Z.cell 1
    have rf1 := HW.out.Z.frozen 1
    have r2 := HW.out.Z.cell 2
    have rf2 := HW.out.Z.frozen 2
    have r3 := HW.out.Z.cell 3
    have rf3 := HW.out.Z.frozen 3
    have r4 := HW.out.Z.cell 4
    have rf4 := HW.out.Z.frozen 4
    have rl := HW.out.Z.lt
    go_wp2
    refine bodyPost_ret (ret_row rfl _ _ (w.heap.size + 1) 26 [.int .i64 s, .int .i64 n, .string q, .slice A1 ns.length c1, .slice A2 ks.length c2] (HW.out.Z.setAll [.int .i64 s, .int .i64 n, .string q, .slice A1 ns.length c1, .slice A2 ks.length c2] rfl) _ rfl Tryz.underlying26 rfl (by kernel_rfl)) rfl ?_
    exact HW.out.fin (by rw [Tree.bulk_mk]; have := HBK.out; omega) (by omega)
  · skip
    have hl3 : w.heap.size + 2 ≤ w3.heap.size := HT.out.Z.lt
    have hAA : Below w3.heap.size w3 (w3.alloc (.cells #[] 9)) := (Below.refl _ _).alloc (Nat.le_refl _) _
    obtain ⟨usk, hok, hsk⟩ := (HT.out.o1.below hAA HT.out.hn.leftK.lt).srcStrs
    have HE := hide (OwS.emptyL (f := strC) w3 lo (by omega) 9 1)
    have HOK := hide hok
    have HSK := hide hsk
    have HAA := hide hAA
    clear hok hsk hAA
    have b3 := HT.out.X.cell 3
    have bl_ := HT.out.X.lt
    go_wp2_with (first
      | (at_builtin; refine wpl_app rfl _ _ 23 rfl ia _ 16 Tryz.underlying23 HIa.out ja0 ja1 ja2 rfl (by decide) strC_len rfl HE.out ns HOK.out (New.nil _ _) (fun q _ hq => by cases hq) _ _ _ rfl rfl HSK.out (by simp; omega) (by decide) (by rw [World.size_alloc]; omega) ?_; intro A5 n5 c5 w5 hn5 hown5 hgb5; have hgb6 : GB (w3.alloc (.cells #[] 9)) w5 (.slice (some ⟨w3.heap.size, 0, none⟩) 0 0) (.slice A5 n5 c5) := hgb5; have hown6 : OwS w5 lo 9 1 strC (.slice A5 n5 c5) ns usk [] := hown5; have HB5 := hide (HAA.out.trans (hgb6.toBelow (B := w3.heap.size) (by rw [World.size_alloc]; omega) (fun q e => by (have e2 : w3.heap.size = q := by simpa [Value.ownBlock] using e); omega))); have HGE5 := hide (fun q (e : (Value.slice A5 n5 c5).ownBlock = some q) => show w3.heap.size ≤ q from hgb6.from (B := w3.heap.size) (by rw [World.size_alloc]; omega) (fun q e => by (have e2 : w3.heap.size = q := by simpa [Value.ownBlock] using e); omega) q e); have HS5 := hide (HT.out.below HB5.out); have HO5 := hide hown6; have HN5 := hide hn5; clear hown5 hown6 hgb5 hgb6 hn5)
      | fail)
    have hA6 : Below w5.heap.size w5 (w5.alloc (.cells #[.string ⟨#[97]⟩, .string ⟨#[122]⟩, .string ⟨#[65]⟩, .string ⟨#[]⟩, .string ⟨#[116, 111, 111, 108, 111, 110, 103, 97, 97]⟩] 9)) := (Below.refl _ _).alloc (Nat.le_refl _) _
    have HS6 := hide (HS5.out.below hA6)
    have HO6 := hide (HO5.out.alloc (.cells #[.string ⟨#[97]⟩, .string ⟨#[122]⟩, .string ⟨#[65]⟩, .string ⟨#[]⟩, .string ⟨#[116, 111, 111, 108, 111, 110, 103, 97, 97]⟩] 9))
    have hz5 : w.heap.size + 1 < w5.heap.size := HS5.out.Z.lt
    have HOF := hide (of_any HS6.out.rd (by omega) [⟨#[97]⟩, ⟨#[122]⟩, ⟨#[65]⟩, ⟨#[]⟩, ⟨#[116, 111, 111, 108, 111, 110, 103, 97, 97]⟩] w5.heap.size 5 (by decide) (by decide) (by omega) (by rw [World.size_alloc]; omega) (fun j hj => by
      have h := (Row.new w5 9 [.string ⟨#[97]⟩, .string ⟨#[122]⟩, .string ⟨#[65]⟩, .string ⟨#[]⟩, .string ⟨#[116, 111, 111, 108, 111, 110, 103, 97, 97]⟩]).cell j
      refine h.trans ?_
      have hj3 : j < 5 := hj
      obtain rfl | rfl | rfl | rfl | rfl : j = 0 ∨ j = 1 ∨ j = 2 ∨ j = 3 ∨ j = 4 := by omega
      all_goals rfl))
    have hsz6 : w3.heap.size ≤ (w5.alloc (.cells #[.string ⟨#[97]⟩, .string ⟨#[122]⟩, .string ⟨#[65]⟩, .string ⟨#[]⟩, .string ⟨#[116, 111, 111, 108, 111, 110, 103, 97, 97]⟩] 9)).heap.size := by have := HB5.out.size; rw [World.size_alloc]; omega
    clear hA6 b3 bl_
    go_wp2_with fail
    refine HOF.out.mono ?_
    rintro e w7 ⟨s7, hs7, rfl, hr7, hg7⟩
    have hs1 : s7.size ≤ 9 := by
      simp only [List.mem_cons, List.not_mem_nil, or_false] at hs7
      rcases hs7 with rfl | rfl | rfl | rfl | rfl <;> decide
    have HS7 := hide (HS6.out.tick hg7 hr7)
    have HO7 := hide ((HO6.out.kept hg7 (fun q e => by injection e with e; subst e; exact ⟨HO6.out.nlow hgl, HO6.out.low hgl⟩)).alloc (.cells #[.string s7] 9))
    have HXS := hide (fun W => show OwC W ([s7].flatMap strC) [.string s7] [] from ⟨[], [], ⟨rfl, show s7.size ≤ maxLen by (unfold maxLen; omega), rfl⟩, rfl, rfl⟩)
    have hsz7 : w3.heap.size ≤ w7.heap.size := Nat.le_trans hsz6 hg7.size
    have HSA := hide (show lo ≤ (w7.alloc (.cells #[.string s7] 9)).heap.size from by rw [World.size_alloc]; omega)
    have hF2 := hide (show Lt f2 w3.heap.size from HT.out.hn.rightK.lt)
    have HF3 := hide (show Lt (f1 ++ f2) w3.heap.size from HT.out.hn.lt)
    clear hs7 hr7 hg7 HOF HS6 HO6 HS5 HO5 HE HOK HSK HT
    go_upto_region 28 with (first
      | (at_builtin; refine wpl_app rfl _ _ 23 rfl ia _ 16 Tryz.underlying23 HIa.out ja0 ja1 ja2 rfl (by decide) strC_len rfl HO7.out [s7] (HXS.out _) (New.nil _ _) (fun q _ hq => by cases hq) _ 1 1 rfl rfl (SrcAt.new w7 _ _ _ _) (by simp; omega) (by decide) HSA.out ?_; intro A9 n9 c9 w9 hn9 hown9 hgb9; have hgba : GB (w7.alloc (.cells #[.string s7] 9)) w9 (.slice A5 n5 c5) (.slice A9 n9 c9) := hgb9; have hown : OwS w9 lo 9 1 strC (.slice A9 n9 c9) (ns ++ [s7]) (usk ++ [.string s7]) [] := hown9; have HB9 := hide (((Below.refl w3.heap.size w7).alloc hsz7 (.cells #[.string s7] 9)).trans (hgba.toBelow (B := w3.heap.size) (Nat.le_trans hsz7 (by rw [World.size_alloc]; omega)) HGE5.out)); have HGE9 := hide (hgba.from (B := w3.heap.size) (Nat.le_trans hsz7 (by rw [World.size_alloc]; omega)) HGE5.out); have HS9 := hide (HS7.out.low HB9.out hl3 HF3.out); have HO9 := hide hown; have HN9 := hide hn9; clear hown9 hgb9 hgba hown hn9; have b3 := HS9.out.X.cell 3; have bf3 := HS9.out.X.frozen 3; have bl_ := HS9.out.X.lt)
      | fail)
    generalize hwz : World.setCell _ _ _ = wz
    obtain rfl : n9 = (ns ++ [s7]).length := by rw [HN9.out]; simp
    obtain ⟨p1, oo1, nn1, ss1⟩ := HO9.out.toOw'
    have HW := hide (show SpT s n x (ns ++ [s7]) ks A9 c9 A2 c2 p1 f2 (f1 ++ f2) lo g L w wz (k1 + 1 + 1) from by
      rw [← hwz]
      exact HS9.out.setns oo1 nn1 (fun b hb => by
        rcases ss1 b hb with h | h
        · have h1 := HGE9.out b h
          exact ⟨by omega, fun hm => by have := hF2.out b hm; omega⟩
        · cases h))
    clear hwz oo1 nn1 ss1 HS9 HO9 HN9 b3 bf3 bl_ HS7 HO7 HB9 HGE9 HB5 HGE5 HN5 HAA HXS HSA hF2
    obtain ⟨nz, hnz⟩ : ∃ q, ns ++ [s7] = q := ⟨_, rfl⟩
    rw [hnz] at HW
    have HNZ := hide hnz
    clear hnz
    have b0 := HW.out.X.cell 0
    have bf0 := HW.out.X.frozen 0
    have b1 := HW.out.X.cell 1
    have bf1 := HW.out.X.frozen 1
    have b2 := HW.out.X.cell 2
    have bf2 := HW.out.X.frozen 2
    have b3 := HW.out.X.cell 3
    have bf3 := HW.out.X.frozen 3
    have b4 := HW.out.X.cell 4
    have bf4 := HW.out.X.frozen 4
    have bl := HW.out.X.lt
    have r0 := HW.out.Z.cell 0
    have rf0 := HW.out.Z.frozen 0
    have r1 := HW.out.Z.cell 1
    have rf1 := HW.out.Z.frozen 1
    have r2 := HW.out.Z.cell 2
    have rf2 := HW.out.Z.frozen 2
    have r3 := HW.out.Z.cell 3
    have rf3 := HW.out.Z.frozen 3
    have r4 := HW.out.Z.cell 4
    have rf4 := HW.out.Z.frozen 4
    have rl := HW.out.Z.lt
    go_wp2
    refine bodyPost_ret (ret_row rfl _ _ (w.heap.size + 1) 26 [.int .i64 s, .int .i64 n, .string x, .slice A9 nz.length c9, .slice A2 ks.length c2] (HW.out.Z.setAll [.int .i64 s, .int .i64 n, .string x, .slice A9 nz.length c9, .slice A2 ks.length c2] rfl) _ rfl Tryz.underlying26 rfl (by kernel_rfl)) rfl ?_
    exact HW.out.fin (by rw [Tree.bulk_mk, ← HNZ.out, bulkStrs_snoc]; have := HBK.out; omega) (by omega)
  · skip
    have hl3 : w.heap.size + 2 ≤ w3.heap.size := HT.out.Z.lt
    have hAA : Below w3.heap.size w3 (w3.alloc (.cells #[] 26)) := (Below.refl _ _).alloc (Nat.le_refl _) _
    obtain ⟨usk, fk, hok, hsk, hsub, hnk⟩ := (HT.out.o2.below hAA HT.out.hn.rightK.lt).srcNew (HT.out.hn.rightK.alloc _)
    have HE := hide (OwS.emptyL (f := Tree.cells) w3 lo (by omega) 26 5)
    have HNO := hide (show ∀ q, (Value.slice (some ⟨w3.heap.size, 0, none⟩) 0 0).ownBlock = some q → q ∉ fk from fun q e hm => by
      have e2 : w3.heap.size = q := by simpa [Value.ownBlock] using e
      have := HT.out.hn.rightK.lt _ (hsub hm)
      omega)
    have HOK := hide hok
    have HSK := hide hsk
    have HSUB := hide hsub
    have HNK := hide (show New (w3.alloc (.cells #[] 26)) ([] ++ fk) lo from hnk)
    have HAA := hide hAA
    clear hok hsk hnk hAA hsub
    have b4 := HT.out.X.cell 4
    have bl_ := HT.out.X.lt
    have HLF := hide (fun W => num0_ow W)
    have HF3 := hide (show Lt (f1 ++ f2) w3.heap.size from HT.out.hn.lt)
    go_upto_region 28 with (first
      | (at_builtin; refine wpl_app rfl _ _ 24 rfl ib _ 80 Tryz.underlying24 HIb.out jb0 jb1 jb2 rfl (by decide) Tree.cells_len rfl HOA.out [Tree.mk 1 0 .empty [] []] (HLF.out _) HNA.out (fun q _ hq => by cases hq) _ 1 1 rfl rfl (SrcAt.new w5 _ _ _ _) (by simp; omega) (by decide) HSA.out ?_; intro A9 n9 c9 w9 hn9 hown9 hgb9; have hgba : GB (w5.alloc (.cells #[.int .i64 1, .int .i64 0, .string .empty, .slice none 0 0, .slice none 0 0] 26)) w9 (.slice A5 n5 c5) (.slice A9 n9 c9) := hgb9; have hown : OwS w9 lo 26 5 Tree.cells (.slice A9 n9 c9) (ks ++ [Tree.mk 1 0 .empty [] []]) (usk ++ [.int .i64 1, .int .i64 0, .string .empty, .slice none 0 0, .slice none 0 0]) (fk ++ []) := hown9; have HB9 := hide (((Below.refl w3.heap.size w5).alloc (HB5.out.size) (.cells #[.int .i64 1, .int .i64 0, .string .empty, .slice none 0 0, .slice none 0 0] 26)).trans (hgba.toBelow (B := w3.heap.size) (Nat.le_trans HB5.out.size (by rw [World.size_alloc]; omega)) HGE5.out)); have HGE9 := hide (hgba.from (B := w3.heap.size) (Nat.le_trans HB5.out.size (by rw [World.size_alloc]; omega)) HGE5.out); have HS9 := hide (HT.out.below (HB5.out.trans HB9.out)); have HO9 := hide hown; have HN9 := hide hn9; clear hown9 hgb9 hgba hown hn9; have b4 := HS9.out.X.cell 4; have bf4 := HS9.out.X.frozen 4; have bl_ := HS9.out.X.lt)
      | (at_builtin; refine wpl_app rfl _ _ 24 rfl ib _ 80 Tryz.underlying24 HIb.out jb0 jb1 jb2 rfl (by decide) Tree.cells_len rfl HE.out ks HOK.out HNK.out HNO.out _ _ _ rfl rfl HSK.out (by simp; omega) (by decide) (by rw [World.size_alloc]; omega) ?_; intro A5 n5 c5 w5 hn5 hown5 hgb5; have hgb6 : GB (w3.alloc (.cells #[] 26)) w5 (.slice (some ⟨w3.heap.size, 0, none⟩) 0 0) (.slice A5 n5 c5) := hgb5; have hown6 : OwS w5 lo 26 5 Tree.cells (.slice A5 n5 c5) ks usk fk := hown5; have HB5 := hide (HAA.out.trans (hgb6.toBelow (B := w3.heap.size) (by rw [World.size_alloc]; omega) (fun q e => by (have e2 : w3.heap.size = q := by simpa [Value.ownBlock] using e); omega))); have HGE5 := hide (fun q (e : (Value.slice A5 n5 c5).ownBlock = some q) => show w3.heap.size ≤ q from hgb6.from (B := w3.heap.size) (by rw [World.size_alloc]; omega) (fun q e => by (have e2 : w3.heap.size = q := by simpa [Value.ownBlock] using e); omega) q e); have HS5 := hide (HT.out.below HB5.out); have HO5 := hide hown6; have HN5 := hide hn5; clear hown5 hown6 hgb5 hgb6 hn5; have HOA := hide (HO5.out.alloc (.cells #[.int .i64 1, .int .i64 0, .string .empty, .slice none 0 0, .slice none 0 0] 26)); have HNA := hide (show New (w5.alloc (.cells #[.int .i64 1, .int .i64 0, .string .empty, .slice none 0 0, .slice none 0 0] 26)) (fk ++ []) lo from by (rw [List.append_nil]; exact HO5.out.new.alloc _)); have HSA := hide (show lo ≤ (w5.alloc (.cells #[.int .i64 1, .int .i64 0, .string .empty, .slice none 0 0, .slice none 0 0] 26)).heap.size from by (have := HB5.out.size; rw [World.size_alloc]; omega)))
      | fail)
    generalize hwz : World.setCell _ _ _ = wz2
    obtain rfl : n9 = (ks ++ [Tree.mk 1 0 .empty [] []]).length := by rw [HN9.out]; simp
    obtain ⟨p2, oo2, nn2, ss2⟩ := HO9.out.toOw'
    have HW2 := hide (show SpT s n x ns (ks ++ [Tree.mk 1 0 .empty [] []]) A1 c1 A9 c9 f1 p2 (f1 ++ f2) lo g L w wz2 (k1 + 1) from by
      rw [← hwz]
      exact HS9.out.setks oo2 nn2 (fun b hb => by
        rcases ss2 b hb with h | h
        · have h1 := HGE9.out b h
          exact ⟨.inr (by omega), fun hm => by have := HF3.out.left b hm; omega⟩
        · rw [List.append_nil] at h
          refine ⟨HS9.out.hs b (List.mem_append_right _ (HSUB.out h)), fun hm => ?_⟩
          exact (List.nodup_append.1 HS9.out.hn.nd).2.2 b hm b (HSUB.out h) rfl))
    clear hwz oo2 nn2 ss2 HS9 HO9 HN9 b4 bf4 bl_ HB9 HGE9 HE HOK HSK HNK HNO
    obtain ⟨kz, hkz⟩ : ∃ q, ks ++ [Tree.mk 1 0 .empty [] []] = q := ⟨_, rfl⟩
    rw [hkz] at HW2
    have HKZ := hide hkz
    clear hkz
    have b0 := HW2.out.X.cell 0
    have bf0 := HW2.out.X.frozen 0
    have b1 := HW2.out.X.cell 1
    have bf1 := HW2.out.X.frozen 1
    have b2 := HW2.out.X.cell 2
    have bf2 := HW2.out.X.frozen 2
    have b3 := HW2.out.X.cell 3
    have bf3 := HW2.out.X.frozen 3
    have b4 := HW2.out.X.cell 4
    have bf4 := HW2.out.X.frozen 4
    have bl := HW2.out.X.lt
    have r0 := HW2.out.Z.cell 0
    have rf0 := HW2.out.Z.frozen 0
    have r1 := HW2.out.Z.cell 1
    have rf1 := HW2.out.Z.frozen 1
    have r2 := HW2.out.Z.cell 2
    have rf2 := HW2.out.Z.frozen 2
    have r3 := HW2.out.Z.cell 3
    have rf3 := HW2.out.Z.frozen 3
    have r4 := HW2.out.Z.cell 4
    have rf4 := HW2.out.Z.frozen 4
    have rl := HW2.out.Z.lt
    go_wp2
    refine bodyPost_ret (ret_row rfl _ _ (w.heap.size + 1) 26 [.int .i64 s, .int .i64 n, .string x, .slice A1 ns.length c1, .slice A9 kz.length c9] (HW2.out.Z.setAll [.int .i64 s, .int .i64 n, .string x, .slice A1 ns.length c1, .slice A9 kz.length c9] rfl) _ rfl Tryz.underlying26 rfl (by kernel_rfl)) rfl ?_
    exact HW2.out.fin (by rw [Tree.bulk_mk, ← HKZ.out, tbulkS_snoc, Tree.bulk_leaf, List.length_append, List.length_singleton]; have := HBK.out; omega) (by omega)
  · skip
    have hl3 : w.heap.size + 2 ≤ w3.heap.size := HT.out.Z.lt
    have hAA : Below w3.heap.size w3 (w3.alloc (.cells #[] 9)) := (Below.refl _ _).alloc (Nat.le_refl _) _
    obtain ⟨usk, hok, hsk⟩ := (HT.out.o1.below hAA HT.out.hn.leftK.lt).srcStrs
    have HE := hide (OwS.emptyL (f := strC) w3 lo (by omega) 9 1)
    have HOK := hide hok
    have HSK := hide hsk
    have HAA := hide hAA
    clear hok hsk hAA
    have b3 := HT.out.X.cell 3
    have bl_ := HT.out.X.lt
    go_wp2_with (first
      | (at_builtin; refine wpl_app rfl _ _ 23 rfl ia _ 16 Tryz.underlying23 HIa.out ja0 ja1 ja2 rfl (by decide) strC_len rfl HE.out ns HOK.out (New.nil _ _) (fun q _ hq => by cases hq) _ _ _ rfl rfl HSK.out (by simp; omega) (by decide) (by rw [World.size_alloc]; omega) ?_; intro A5 n5 c5 w5 hn5 hown5 hgb5; have hgb6 : GB (w3.alloc (.cells #[] 9)) w5 (.slice (some ⟨w3.heap.size, 0, none⟩) 0 0) (.slice A5 n5 c5) := hgb5; have hown6 : OwS w5 lo 9 1 strC (.slice A5 n5 c5) ns usk [] := hown5; have HB5 := hide (HAA.out.trans (hgb6.toBelow (B := w3.heap.size) (by rw [World.size_alloc]; omega) (fun q e => by (have e2 : w3.heap.size = q := by simpa [Value.ownBlock] using e); omega))); have HGE5 := hide (fun q (e : (Value.slice A5 n5 c5).ownBlock = some q) => show w3.heap.size ≤ q from hgb6.from (B := w3.heap.size) (by rw [World.size_alloc]; omega) (fun q e => by (have e2 : w3.heap.size = q := by simpa [Value.ownBlock] using e); omega) q e); have HS5 := hide (HT.out.below HB5.out); have HO5 := hide hown6; have HN5 := hide hn5; clear hown5 hown6 hgb5 hgb6 hn5)
      | fail)
    have hA6 : Below w5.heap.size w5 (w5.alloc (.cells #[.string ⟨#[122]⟩, .string ⟨#[122, 122]⟩, .string ⟨#[90]⟩] 9)) := (Below.refl _ _).alloc (Nat.le_refl _) _
    have HS6 := hide (HS5.out.below hA6)
    have HO6 := hide (HO5.out.alloc (.cells #[.string ⟨#[122]⟩, .string ⟨#[122, 122]⟩, .string ⟨#[90]⟩] 9))
    have hz5 : w.heap.size + 1 < w5.heap.size := HS5.out.Z.lt
    have HOF := hide (of_any HS6.out.rd (by omega) [⟨#[122]⟩, ⟨#[122, 122]⟩, ⟨#[90]⟩] w5.heap.size 3 (by decide) (by decide) (by omega) (by rw [World.size_alloc]; omega) (fun j hj => by
      have h := (Row.new w5 9 [.string ⟨#[122]⟩, .string ⟨#[122, 122]⟩, .string ⟨#[90]⟩]).cell j
      refine h.trans ?_
      have hj3 : j < 3 := hj
      obtain rfl | rfl | rfl : j = 0 ∨ j = 1 ∨ j = 2 := by omega
      all_goals rfl))
    have hsz6 : w3.heap.size ≤ (w5.alloc (.cells #[.string ⟨#[122]⟩, .string ⟨#[122, 122]⟩, .string ⟨#[90]⟩] 9)).heap.size := by have := HB5.out.size; rw [World.size_alloc]; omega
    clear hA6 b3 bl_
    go_wp2_with fail
    refine HOF.out.mono ?_
    rintro e w7 ⟨s7, hs7, rfl, hr7, hg7⟩
    have hs1 : s7.size ≤ 2 := by
      simp only [List.mem_cons, List.not_mem_nil, or_false] at hs7
      rcases hs7 with rfl | rfl | rfl <;> decide
    have HS7 := hide (HS6.out.tick hg7 hr7)
    have HO7 := hide ((HO6.out.kept hg7 (fun q e => by injection e with e; subst e; exact ⟨HO6.out.nlow hgl, HO6.out.low hgl⟩)).alloc (.cells #[.string s7] 9))
    have HXS := hide (fun W => show OwC W ([s7].flatMap strC) [.string s7] [] from ⟨[], [], ⟨rfl, show s7.size ≤ maxLen by (unfold maxLen; omega), rfl⟩, rfl, rfl⟩)
    have hsz7 : w3.heap.size ≤ w7.heap.size := Nat.le_trans hsz6 hg7.size
    have HSA := hide (show lo ≤ (w7.alloc (.cells #[.string s7] 9)).heap.size from by rw [World.size_alloc]; omega)
    have hF2 := hide (show Lt f2 w3.heap.size from HT.out.hn.rightK.lt)
    have HF3 := hide (show Lt (f1 ++ f2) w3.heap.size from HT.out.hn.lt)
    clear hs7 hr7 hg7 HOF HS6 HO6 HS5 HO5 HE HOK HSK HT
    go_upto_region 21 with (first
      | (at_builtin; refine wpl_app rfl _ _ 23 rfl ia _ 16 Tryz.underlying23 HIa.out ja0 ja1 ja2 rfl (by decide) strC_len rfl HO7.out [s7] (HXS.out _) (New.nil _ _) (fun q _ hq => by cases hq) _ 1 1 rfl rfl (SrcAt.new w7 _ _ _ _) (by simp; omega) (by decide) HSA.out ?_; intro A9 n9 c9 w9 hn9 hown9 hgb9; have hgba : GB (w7.alloc (.cells #[.string s7] 9)) w9 (.slice A5 n5 c5) (.slice A9 n9 c9) := hgb9; have hown : OwS w9 lo 9 1 strC (.slice A9 n9 c9) (ns ++ [s7]) (usk ++ [.string s7]) [] := hown9; have HB9 := hide (((Below.refl w3.heap.size w7).alloc hsz7 (.cells #[.string s7] 9)).trans (hgba.toBelow (B := w3.heap.size) (Nat.le_trans hsz7 (by rw [World.size_alloc]; omega)) HGE5.out)); have HGE9 := hide (hgba.from (B := w3.heap.size) (Nat.le_trans hsz7 (by rw [World.size_alloc]; omega)) HGE5.out); have HS9 := hide (HS7.out.low HB9.out hl3 HF3.out); have HO9 := hide hown; have HN9 := hide hn9; clear hown9 hgb9 hgba hown hn9; have b3 := HS9.out.X.cell 3; have bf3 := HS9.out.X.frozen 3; have bl_ := HS9.out.X.lt)
      | fail)
    generalize hwz : World.setCell _ _ _ = wz
    obtain rfl : n9 = (ns ++ [s7]).length := by rw [HN9.out]; simp
    obtain ⟨p1, oo1, nn1, ss1⟩ := HO9.out.toOw'
    have HW := hide (show SpT s n x (ns ++ [s7]) ks A9 c9 A2 c2 p1 f2 (f1 ++ f2) lo g L w wz (k1 + 1 + 1) from by
      rw [← hwz]
      exact HS9.out.setns oo1 nn1 (fun b hb => by
        rcases ss1 b hb with h | h
        · have h1 := HGE9.out b h
          exact ⟨by omega, fun hm => by have := hF2.out b hm; omega⟩
        · cases h))
    clear hwz oo1 nn1 ss1 HS9 HO9 HN9 b3 bf3 bl_ HS7 HO7 HB9 HGE9 HB5 HGE5 HN5 HAA HXS HSA hF2
    obtain ⟨nz, hnz⟩ : ∃ q, ns ++ [s7] = q := ⟨_, rfl⟩
    rw [hnz] at HW
    have HNZ := hide hnz
    clear hnz
    obtain ⟨A1b, rfl⟩ : ∃ A, A = A9 := ⟨_, rfl⟩
    obtain ⟨c1b, rfl⟩ : ∃ c, c = c9 := ⟨_, rfl⟩
    have hl3 : w.heap.size + 2 ≤ wz.heap.size := HW.out.Z.lt
    have hAA : Below wz.heap.size wz (wz.alloc (.cells #[] 26)) := (Below.refl _ _).alloc (Nat.le_refl _) _
    obtain ⟨usk, fk, hok, hsk, hsub, hnk⟩ := (HW.out.o2.below hAA HW.out.hn.rightK.lt).srcNew (HW.out.hn.rightK.alloc _)
    have HE := hide (OwS.emptyL (f := Tree.cells) wz lo (by omega) 26 5)
    have HNO := hide (show ∀ q, (Value.slice (some ⟨wz.heap.size, 0, none⟩) 0 0).ownBlock = some q → q ∉ fk from fun q e hm => by
      have e2 : wz.heap.size = q := by simpa [Value.ownBlock] using e
      have := HW.out.hn.rightK.lt _ (hsub hm)
      omega)
    have HOK := hide hok
    have HSK := hide hsk
    have HSUB := hide hsub
    have HNK := hide (show New (wz.alloc (.cells #[] 26)) ([] ++ fk) lo from hnk)
    have HAA := hide hAA
    clear hok hsk hnk hAA hsub
    have b4 := HW.out.X.cell 4
    have bl_ := HW.out.X.lt
    have HLF := hide (fun W => num0_ow W)
    have HF3 := hide (show Lt (p1 ++ f2) wz.heap.size from HW.out.hn.lt)
    go_upto_region 28 with (first
      | (at_builtin; refine wpl_app rfl _ _ 24 rfl ib _ 80 Tryz.underlying24 HIb.out jb0 jb1 jb2 rfl (by decide) Tree.cells_len rfl HOA.out [Tree.mk 1 0 .empty [] []] (HLF.out _) HNA.out (fun q _ hq => by cases hq) _ 1 1 rfl rfl (SrcAt.new w5 _ _ _ _) (by simp; omega) (by decide) HSA.out ?_; intro A9 n9 c9 w9 hn9 hown9 hgb9; have hgba : GB (w5.alloc (.cells #[.int .i64 1, .int .i64 0, .string .empty, .slice none 0 0, .slice none 0 0] 26)) w9 (.slice A5 n5 c5) (.slice A9 n9 c9) := hgb9; have hown : OwS w9 lo 26 5 Tree.cells (.slice A9 n9 c9) (ks ++ [Tree.mk 1 0 .empty [] []]) (usk ++ [.int .i64 1, .int .i64 0, .string .empty, .slice none 0 0, .slice none 0 0]) (fk ++ []) := hown9; have HB9 := hide (((Below.refl wz.heap.size w5).alloc (HB5.out.size) (.cells #[.int .i64 1, .int .i64 0, .string .empty, .slice none 0 0, .slice none 0 0] 26)).trans (hgba.toBelow (B := wz.heap.size) (Nat.le_trans HB5.out.size (by rw [World.size_alloc]; omega)) HGE5.out)); have HGE9 := hide (hgba.from (B := wz.heap.size) (Nat.le_trans HB5.out.size (by rw [World.size_alloc]; omega)) HGE5.out); have HS9 := hide (HW.out.below (HB5.out.trans HB9.out)); have HO9 := hide hown; have HN9 := hide hn9; clear hown9 hgb9 hgba hown hn9; have b4 := HS9.out.X.cell 4; have bf4 := HS9.out.X.frozen 4; have bl_ := HS9.out.X.lt)
      | (at_builtin; refine wpl_app rfl _ _ 24 rfl ib _ 80 Tryz.underlying24 HIb.out jb0 jb1 jb2 rfl (by decide) Tree.cells_len rfl HE.out ks HOK.out HNK.out HNO.out _ _ _ rfl rfl HSK.out (by simp; omega) (by decide) (by rw [World.size_alloc]; omega) ?_; intro A5 n5 c5 w5 hn5 hown5 hgb5; have hgb6 : GB (wz.alloc (.cells #[] 26)) w5 (.slice (some ⟨wz.heap.size, 0, none⟩) 0 0) (.slice A5 n5 c5) := hgb5; have hown6 : OwS w5 lo 26 5 Tree.cells (.slice A5 n5 c5) ks usk fk := hown5; have HB5 := hide (HAA.out.trans (hgb6.toBelow (B := wz.heap.size) (by rw [World.size_alloc]; omega) (fun q e => by (have e2 : wz.heap.size = q := by simpa [Value.ownBlock] using e); omega))); have HGE5 := hide (fun q (e : (Value.slice A5 n5 c5).ownBlock = some q) => show wz.heap.size ≤ q from hgb6.from (B := wz.heap.size) (by rw [World.size_alloc]; omega) (fun q e => by (have e2 : wz.heap.size = q := by simpa [Value.ownBlock] using e); omega) q e); have HS5 := hide (HW.out.below HB5.out); have HO5 := hide hown6; have HN5 := hide hn5; clear hown5 hown6 hgb5 hgb6 hn5; have HOA := hide (HO5.out.alloc (.cells #[.int .i64 1, .int .i64 0, .string .empty, .slice none 0 0, .slice none 0 0] 26)); have HNA := hide (show New (w5.alloc (.cells #[.int .i64 1, .int .i64 0, .string .empty, .slice none 0 0, .slice none 0 0] 26)) (fk ++ []) lo from by (rw [List.append_nil]; exact HO5.out.new.alloc _)); have HSA := hide (show lo ≤ (w5.alloc (.cells #[.int .i64 1, .int .i64 0, .string .empty, .slice none 0 0, .slice none 0 0] 26)).heap.size from by (have := HB5.out.size; rw [World.size_alloc]; omega)))
      | fail)
    generalize hwz : World.setCell _ _ _ = wz2
    obtain rfl : n9 = (ks ++ [Tree.mk 1 0 .empty [] []]).length := by rw [HN9.out]; simp
    obtain ⟨p2, oo2, nn2, ss2⟩ := HO9.out.toOw'
    have HW2 := hide (show SpT s n x nz (ks ++ [Tree.mk 1 0 .empty [] []]) A1b c1b A9 c9 p1 p2 (f1 ++ f2) lo g L w wz2 (k1 + 1 + 1) from by
      rw [← hwz]
      exact HS9.out.setks oo2 nn2 (fun b hb => by
        rcases ss2 b hb with h | h
        · have h1 := HGE9.out b h
          exact ⟨.inr (by omega), fun hm => by have := HF3.out.left b hm; omega⟩
        · rw [List.append_nil] at h
          refine ⟨HS9.out.hs b (List.mem_append_right _ (HSUB.out h)), fun hm => ?_⟩
          exact (List.nodup_append.1 HS9.out.hn.nd).2.2 b hm b (HSUB.out h) rfl))
    clear hwz oo2 nn2 ss2 HS9 HO9 HN9 b4 bf4 bl_ HB9 HGE9 HE HOK HSK HNK HNO
    obtain ⟨kz, hkz⟩ : ∃ q, ks ++ [Tree.mk 1 0 .empty [] []] = q := ⟨_, rfl⟩
    rw [hkz] at HW2
    have HKZ := hide hkz
    clear hkz
    have b0 := HW2.out.X.cell 0
    have bf0 := HW2.out.X.frozen 0
    have b1 := HW2.out.X.cell 1
    have bf1 := HW2.out.X.frozen 1
    have b2 := HW2.out.X.cell 2
    have bf2 := HW2.out.X.frozen 2
    have b3 := HW2.out.X.cell 3
    have bf3 := HW2.out.X.frozen 3
    have b4 := HW2.out.X.cell 4
    have bf4 := HW2.out.X.frozen 4
    have bl := HW2.out.X.lt
    have r0 := HW2.out.Z.cell 0
    have rf0 := HW2.out.Z.frozen 0
    have r1 := HW2.out.Z.cell 1
    have rf1 := HW2.out.Z.frozen 1
    have r2 := HW2.out.Z.cell 2
    have rf2 := HW2.out.Z.frozen 2
    have r3 := HW2.out.Z.cell 3
    have rf3 := HW2.out.Z.frozen 3
    have r4 := HW2.out.Z.cell 4
    have rf4 := HW2.out.Z.frozen 4
    have rl := HW2.out.Z.lt
    go_wp2
    refine bodyPost_ret (ret_row rfl _ _ (w.heap.size + 1) 26 [.int .i64 s, .int .i64 n, .string x, .slice A1b nz.length c1b, .slice A9 kz.length c9] (HW2.out.Z.setAll [.int .i64 s, .int .i64 n, .string x, .slice A1b nz.length c1b, .slice A9 kz.length c9] rfl) _ rfl Tryz.underlying26 rfl (by kernel_rfl)) rfl ?_
    exact HW2.out.fin (by rw [Tree.bulk_mk, ← HKZ.out, ← HNZ.out, bulkStrs_snoc, tbulkS_snoc, Tree.bulk_leaf, List.length_append, List.length_singleton]; have := HBK.out; omega) (by omega)
  · skip
    have hl3 : w.heap.size + 2 ≤ w3.heap.size := HT.out.Z.lt
    have hAA : Below w3.heap.size w3 (w3.alloc (.cells #[] 26)) := (Below.refl _ _).alloc (Nat.le_refl _) _
    have HE := hide (OwS.emptyL (f := Tree.cells) w3 lo (by omega) 26 5)
    have HA := hide (HT.out.below hAA)
    have HLF := hide (fun W => num0_ow W)
    have HF3 := hide (show Lt (f1 ++ f2) w3.heap.size from HT.out.hn.lt)
    clear hAA HT
    have b4 := HA.out.X.cell 4
    have bf4 := HA.out.X.frozen 4
    have bl_ := HA.out.X.lt
    go_upto_region 24 with fail
    generalize hwz : World.setCell _ _ _ = wz
    have HEz := hide (show OwS wz lo 26 5 Tree.cells (.slice (some ⟨w3.heap.size, 0, none⟩) 0 0) [] [] [] from by rw [← hwz]; exact HE.out.setCell (p := ⟨w.heap.size, 4, none⟩) (fun hm => by cases hm) (fun e => by (have e2 : w3.heap.size = w.heap.size := by simpa [Value.ownBlock] using e); omega) _)
    have HW := hide (show SpT s n x ns [] A1 c1 (some ⟨w3.heap.size, 0, none⟩) 0 f1 [] (f1 ++ f2) lo g L w wz (k1 + 1) from by
      rw [← hwz]
      refine HA.out.setks (ks' := []) ?_ (New.nil _ _) (fun b hb => by cases hb)
      unfold Ow
      exact ⟨by simp, _, 0, rfl, Nat.le_refl _, by simp [maxLen], .inl ⟨rfl, rfl⟩⟩)
    have HF0 := hide (show ∀ q, (Value.slice (some ⟨w3.heap.size, 0, none⟩) 0 0).ownBlock = some q → w3.heap.size ≤ q from fun q e => by (have e2 : w3.heap.size = q := by simpa [Value.ownBlock] using e); omega)
    clear hwz HA HE b4 bf4 bl_
    have HXz := hide HW.out.X
    have HBz := hide HW.out.toB
    clear HW
    go_wp2_with fail
    go_loopw [7] (fun iv wr => ∃ (j : Nat) (kz : List Tree) (B : Option Addr) (d : Nat) (us : List Value), iv = .int .i64 (j : Int) ∧ j ≤ 21 ∧ kz.length = j ∧ Tree.bulkS kz = 0 ∧ Row wr w.heap.size 26 [.int .i64 s, .int .i64 n, .string x, .slice A1 ns.length c1, .slice B kz.length d] ∧ SpB s n x ns A1 c1 f1 (f1 ++ f2) lo g L w wr (k1 + 1) ∧ OwS wr lo 26 5 Tree.cells (.slice B kz.length d) kz us [] ∧ (∀ q, (Value.slice B kz.length d).ownBlock = some q → w3.heap.size ≤ q) ∧ w3.heap.size ≤ wr.heap.size) (fun iv _ => 21 - (intOf iv).toNat)
    case atStart => exact ⟨0, [], _, 0, [], rfl, by omega, rfl, rfl, HXz.out, HBz.out, HEz.out, HF0.out, by have := HEz.out.lt w3.heap.size rfl; omega⟩
    case round =>
      obtain ⟨j, kz, B, d, us_, rfl, hj, hkz, hbz, hX, hS, hO, hF, hsz⟩ := hrel
      have HXr := hide hX
      have HSr := hide hS
      have HOr0 := hide hO
      have HOr := hide (hO.alloc (.cells #[.int .i64 1, .int .i64 0, .string .empty, .slice none 0 0, .slice none 0 0] 26))
      have HFr := hide hF
      have HBZ := hide hbz
      have HKZ := hide hkz
      clear hX hS hO hF hbz hkz HXz HBz HEz HF0
      by_cases hjl : j ≤ 20
      · have hji : (j : Int) ≤ 20 := by omega
        have b4 := HXr.out.cell 4
        have bl_ := HXr.out.lt
        have HSA := hide (show lo ≤ (wr.alloc (.cells #[.int .i64 1, .int .i64 0, .string .empty, .slice none 0 0, .slice none 0 0] 26)).heap.size from by rw [World.size_alloc]; omega)
        go_wp2_with (first
          | (at_builtin; refine wpl_app rfl _ _ 24 rfl ib _ 80 Tryz.underlying24 HIb.out jb0 jb1 jb2 rfl (by decide) Tree.cells_len rfl HOr.out [Tree.mk 1 0 .empty [] []] (HLF.out _) (New.nil _ _) (fun q _ hq => by cases hq) _ 1 1 rfl rfl (SrcAt.new wr _ _ _ _) (by have := HKZ.out; omega) (by decide) HSA.out ?_; intro A9 n9 c9 w9 hn9 hown9 hgb9; have hgba : GB (wr.alloc (.cells #[.int .i64 1, .int .i64 0, .string .empty, .slice none 0 0, .slice none 0 0] 26)) w9 (.slice B kz.length d) (.slice A9 n9 c9) := hgb9; have hown : OwS w9 lo 26 5 Tree.cells (.slice A9 n9 c9) (kz ++ [Tree.mk 1 0 .empty [] []]) (us_ ++ [.int .i64 1, .int .i64 0, .string .empty, .slice none 0 0, .slice none 0 0]) [] := hown9; have HB9 := hide (((Below.refl w3.heap.size wr).alloc hsz (.cells #[.int .i64 1, .int .i64 0, .string .empty, .slice none 0 0, .slice none 0 0] 26)).trans (hgba.toBelow (B := w3.heap.size) (by rw [World.size_alloc]; omega) HFr.out)); have HGE9 := hide (hgba.from (B := w3.heap.size) (by rw [World.size_alloc]; omega) HFr.out); have HO9 := hide hown; have HN9 := hide hn9; have r9 := hgba.row (HXr.out.alloc (.cells #[.int .i64 1, .int .i64 0, .string .empty, .slice none 0 0, .slice none 0 0] 26)) (fun e => by have := HFr.out _ e; omega); have c4 := r9.cell 4; have c4f := r9.frozen 4; have c4l := r9.lt; have HR9 := hide r9; clear r9 hown9 hgb9 hgba hown hn9)
          | fail)
        obtain rfl : n9 = (kz ++ [Tree.mk 1 0 .empty [] []]).length := by rw [HN9.out]; simp
        have HS9 := hide ((HSr.out.low HB9.out hl3 HF3.out.left).put 4 (.slice A9 (kz ++ [Tree.mk 1 0 .empty [] []]).length c9))
        have HX9 := hide (show Row (w9.setCell ⟨w.heap.size, 4, none⟩ (.slice A9 (kz ++ [Tree.mk 1 0 .empty [] []]).length c9)) w.heap.size 26 [.int .i64 s, .int .i64 n, .string x, .slice A1 ns.length c1, .slice A9 (kz ++ [Tree.mk 1 0 .empty [] []]).length c9] from HR9.out.set 4 _)
        have HO8 := hide (HO9.out.setCell (p := ⟨w.heap.size, 4, none⟩) (fun hm => by cases hm) (fun e => by have h1 : w3.heap.size ≤ w.heap.size := HGE9.out _ e; omega) (.slice A9 (kz ++ [Tree.mk 1 0 .empty [] []]).length c9))
        have HK9 := hide (show (kz ++ [Tree.mk 1 0 .empty [] []]).length = j + 1 ∧ Tree.bulkS (kz ++ [Tree.mk 1 0 .empty [] []]) = 0 from ⟨by rw [List.length_append, HKZ.out]; rfl, by rw [tbulkS_snoc, HBZ.out]; rfl⟩)
        have hsz9 : w3.heap.size ≤ w9.heap.size := Nat.le_trans hsz HB9.out.size
        obtain ⟨k9, hk9⟩ : ∃ q, kz ++ [Tree.mk 1 0 .empty [] []] = q := ⟨_, rfl⟩
        rw [hk9] at HS9 HX9 HO8 HK9 HGE9 ⊢
        clear hk9 HR9 HO9 HN9 c4 c4f c4l b4 bl_
        go_roundw
        case rel => exact ⟨j + 1, k9, A9, c9, _, by go_num, by omega, HK9.out.1, HK9.out.2, HX9.out, HS9.out, HO8.out, HGE9.out, by simpa using hsz9⟩
        case measure => simp [intOf]; omega
      · have hji : ¬ ((j : Int) ≤ 20) := by omega
        have HKL := hide (show kz.length ≤ 21 from by have := HKZ.out; omega)
        obtain ⟨p2, oo2, nn2, ss2⟩ := HOr0.out.toOw'
        have HW := hide (HSr.out.toT HXr.out oo2 nn2 (fun b hb => by
          rcases ss2 b hb with h | h
          · have h1 := HFr.out b h
            exact ⟨by omega, fun hm => by have := HF3.out.left b hm; omega⟩
          · cases h))
        clear oo2 nn2 ss2
        have b0 := HW.out.X.cell 0
        have bf0 := HW.out.X.frozen 0
        have b1 := HW.out.X.cell 1
        have bf1 := HW.out.X.frozen 1
        have b2 := HW.out.X.cell 2
        have bf2 := HW.out.X.frozen 2
        have b3 := HW.out.X.cell 3
        have bf3 := HW.out.X.frozen 3
        have b4 := HW.out.X.cell 4
        have bf4 := HW.out.X.frozen 4
        have bl := HW.out.X.lt
        have r0 := HW.out.Z.cell 0
        have rf0 := HW.out.Z.frozen 0
        have r1 := HW.out.Z.cell 1
        have rf1 := HW.out.Z.frozen 1
        have r2 := HW.out.Z.cell 2
        have rf2 := HW.out.Z.frozen 2
        have r3 := HW.out.Z.cell 3
        have rf3 := HW.out.Z.frozen 3
        have r4 := HW.out.Z.cell 4
        have rf4 := HW.out.Z.frozen 4
        have rl := HW.out.Z.lt
        go_wp2
        refine bodyPost_ret (ret_row rfl _ _ (w.heap.size + 1) 26 [.int .i64 s, .int .i64 n, .string x, .slice A1 ns.length c1, .slice B kz.length d] (HW.out.Z.setAll [.int .i64 s, .int .i64 n, .string x, .slice A1 ns.length c1, .slice B kz.length d] rfl) _ rfl Tryz.underlying26 rfl (by kernel_rfl)) rfl ?_
        exact HW.out.fin (by rw [Tree.bulk_mk, HBZ.out]; have := HBK.out; have := HKL.out; omega) (by omega)
  · skip
    have hl3 : w.heap.size + 2 ≤ w3.heap.size := HT.out.Z.lt
    have hAA : Below w3.heap.size w3 (w3.alloc (.cells #[] 9)) := (Below.refl _ _).alloc (Nat.le_refl _) _
    have HA := hide (HT.out.below hAA)
    clear hAA HT
    have b3 := HA.out.X.cell 3
    have bf3 := HA.out.X.frozen 3
    have bl_ := HA.out.X.lt
    go_upto_region 28 with fail
    generalize hwz : World.setCell _ _ _ = wz
    have HW := hide (show SpT s n x [] ks (some ⟨w3.heap.size, 0, none⟩) 0 A2 c2 [] f2 (f1 ++ f2) lo g L w wz (k1 + 1) from by
      rw [← hwz]
      refine HA.out.setns (ns' := []) ?_ (New.nil _ _) (fun b hb => by cases hb)
      unfold Ow
      exact ⟨by simp, _, 0, rfl, Nat.le_refl _, by simp [maxLen], .inl ⟨rfl, rfl⟩⟩)
    clear hwz HA b3 bf3 bl_
    have b0 := HW.out.X.cell 0
    have bf0 := HW.out.X.frozen 0
    have b1 := HW.out.X.cell 1
    have bf1 := HW.out.X.frozen 1
    have b2 := HW.out.X.cell 2
    have bf2 := HW.out.X.frozen 2
    have b3 := HW.out.X.cell 3
    have bf3 := HW.out.X.frozen 3
    have b4 := HW.out.X.cell 4
    have bf4 := HW.out.X.frozen 4
    have bl := HW.out.X.lt
    have r0 := HW.out.Z.cell 0
    have rf0 := HW.out.Z.frozen 0
    have r1 := HW.out.Z.cell 1
    have rf1 := HW.out.Z.frozen 1
    have r2 := HW.out.Z.cell 2
    have rf2 := HW.out.Z.frozen 2
    have r3 := HW.out.Z.cell 3
    have rf3 := HW.out.Z.frozen 3
    have r4 := HW.out.Z.cell 4
    have rf4 := HW.out.Z.frozen 4
    have rl := HW.out.Z.lt
    go_wp2
    refine bodyPost_ret (ret_row rfl _ _ (w.heap.size + 1) 26 [.int .i64 s, .int .i64 n, .string x, .slice (some ⟨w3.heap.size, 0, none⟩) 0 0, .slice A2 ks.length c2] (HW.out.Z.setAll [.int .i64 s, .int .i64 n, .string x, .slice (some ⟨w3.heap.size, 0, none⟩) 0 0, .slice A2 ks.length c2] rfl) _ rfl Tryz.underlying26 rfl (by kernel_rfl)) rfl ?_
    exact HW.out.fin (by rw [Tree.bulk_mk]; have := HBK.out; have e : bulkStrs [] = 0 := rfl; omega) (by omega)
theorem spoilT_any (x : Tree) : SpoilTr x := Tree.ind (fun k ih => by
  obtain ⟨s, n, x, ns, ks⟩ := k
  exact spoilT_of s n x ns ks ih) x
end Go.Proofs.YtnaecdoeldoipaaGreatDoor
set_option linter.unusedVariables false
set_option linter.unusedSimpArgs false
namespace Go.Proofs.YtnaecdoeldoipaaGreatDoor
open Go.ChangeShapes Go.WideShapes Go.ChangeAt Go.RowKit

/-- the result's block is filled with a tree that was made -/
theorem anyT_fin {w W : World} {g : Nat} {L : List UInt8} {k k' N M : Nat} {t : Tree} {vs : List Value} {fq : List Nat} (ho : OwC W t.cells vs fq) (hf : Fr fq (w.heap.size + 1) W.heap.size) (hb : t.bulk ≤ N) (hk : k' ≤ k + M) (hr : RdD W g L k') (hg : w.grownBy W (some g)) (hgw : g < w.heap.size) :
    TDrawW g L k N M w (.returned (.agg vs.toArray)) (putN W w.heap.size 0 vs) := by
  have hgr := setN_grown vs 0 (grown_refl W (some w.heap.size))
  have hno : w.heap.size ∉ fq := fun hm => by have := (hf _ hm).1; omega
  have hb2 : Below w.heap.size W (putN W w.heap.size 0 vs) := below_of_grown hgr (Nat.le_refl _) hg.size
  exact ⟨t, vs, fq, k', rfl, ho.grown hgr hf.lt hno, hf.mono (by omega) hgr.size, hb, hk, hr.low hb2 hgw, only_lowR hg hb2 (Nat.le_refl _)⟩
set_option maxRecDepth 100000 in
set_option maxHeartbeats 4000000 in
theorem l5Any_any {L : List UInt8} {k g : Nat} {w : World} (h : RdD w g L k) (hk : k ≤ 10000000) :
    Calls Tryz.prog 41 #[.pointer (some ⟨g, 0, none⟩)] w (TDrawW g L k 1000000 4000000 w) := by
  have hgw := h.lt
  have HR0 := hide h
  clear h
  go_enter Tryz.func41, Tryz.ntmps41
  go_upto_region 1 with fail
  generalize hw1 : w.alloc _ = w1
  have hb0 : Below w.heap.size w w1 := by rw [← hw1]; exact (Below.refl _ _).alloc (Nat.le_refl _) _
  have HZ := hide (show Row w1 w.heap.size 26 [.int .i64 0, .int .i64 0, .string .empty, .slice none 0 0, .slice none 0 0] from by rw [← hw1]; exact Row.new w _ _)
  have HR := hide (HR0.out.below hb0)
  have HG := hide (grownBy_below hb0 (some g))
  have HP := hide (pick_any HR.out (n := 24) (by omega) (by omega) (by omega))
  clear hw1 hb0 HR0
  go_wp2_with fail
  refine HP.out.mono ?_
  rintro e w2 ⟨v, rfl, hv, h2, hg2⟩
  have HR2 := hide h2
  have HG2 := hide (only_trans HG.out hg2)
  have HZ2 := hide (HZ.out.grown hg2 (fun e => by injection e with e; omega))
  clear h2 hg2 HP HR HG HZ
  by_cases hv0 : v = 0
  · subst hv0
    have HP := hide (pick_any HR2.out (n := 2) (by omega) (by omega) (by omega))
    go_wp2_with fail
    refine HP.out.mono ?_
    rintro e w3 ⟨p, rfl, hp, h3, hg3⟩
    have HR3 := hide h3
    have HG3 := hide (only_trans HG2.out hg3)
    have HZ3 := hide (HZ2.out.grown hg3 (fun e => by injection e with e; omega))
    have HC := hide (show Calls Tryz.prog 92 #[.int .i64 (120 + (p : Int))] w3 (TMade 300 w3) from by
      have h := l5Full_any (120 + p) (by omega) (by omega) w3
      rw [show ((120 + p : Nat) : Int) = 120 + (p : Int) by omega] at h
      exact h)
    clear h3 hg3 HP HR2 HG2 HZ2
    go_wp2_with fail
    refine HC.out.mono ?_
    rintro e w4 ⟨t, us, fq, rfl, ho4, hf4, hb4, hbl⟩
    obtain ⟨E1, e1, E2, e2, g1, g2, rfl, x0, x1, x2, x3, x4, efq⟩ := ho4.oTree
    have HO4 := hide ho4
    have HF4 := hide hf4
    have HR4 := hide (HR3.out.below hbl)
    have HG4 := hide (only_lowR HG3.out hbl HG3.out.size)
    have hz3 : w.heap.size < w3.heap.size := HZ3.out.lt
    have HZ4 := hide (HZ3.out.below hbl HZ3.out.lt)
    clear ho4 hf4 hbl HC HR3 HG3 HZ3 x3 x4 efq
    have z0 := HZ4.out.cell 0
    have y0 := HZ4.out.frozen 0
    have z1 := HZ4.out.cell 1
    have y1 := HZ4.out.frozen 1
    have z2 := HZ4.out.cell 2
    have y2 := HZ4.out.frozen 2
    have z3 := HZ4.out.cell 3
    have y3 := HZ4.out.frozen 3
    have z4 := HZ4.out.cell 4
    have y4 := HZ4.out.frozen 4
    have zl := HZ4.out.lt
    go_wp2
    refine bodyPost_ret (ret_row rfl _ _ w.heap.size 26 [.int .i64 t.sort, .int .i64 t.num, .string t.text, .slice E1 t.names.length e1, .slice E2 t.kids.length e2] (HZ4.out.setAll [.int .i64 t.sort, .int .i64 t.num, .string t.text, .slice E1 t.names.length e1, .slice E2 t.kids.length e2] rfl) _ rfl Tryz.underlying26 rfl (by kernel_rfl)) rfl ?_
    exact anyT_fin (t := t) HO4.out (HF4.out.mono hz3 (Nat.le_refl _)) (by omega) (by omega) HR4.out HG4.out hgw
  have i0 : ¬ ((v : Int) = 0) := by omega
  by_cases hv1 : v = 1
  · subst hv1
    have HP := hide (pick_any HR2.out (n := 2) (by omega) (by omega) (by omega))
    go_wp2_with fail
    refine HP.out.mono ?_
    rintro e w3 ⟨p, rfl, hp, h3, hg3⟩
    have HR3 := hide h3
    have HG3 := hide (only_trans HG2.out hg3)
    have HZ3 := hide (HZ2.out.grown hg3 (fun e => by injection e with e; omega))
    have HC := hide (show Calls Tryz.prog 93 #[.int .i64 (6 + (p : Int))] w3 (TMade 300 w3) from by
      have h := l5Deep_any (6 + p) (by omega) (by omega) w3
      rw [show ((6 + p : Nat) : Int) = 6 + (p : Int) by omega] at h
      exact h)
    clear h3 hg3 HP HR2 HG2 HZ2
    go_wp2_with fail
    refine HC.out.mono ?_
    rintro e w4 ⟨t, us, fq, rfl, ho4, hf4, hb4, hbl⟩
    obtain ⟨E1, e1, E2, e2, g1, g2, rfl, x0, x1, x2, x3, x4, efq⟩ := ho4.oTree
    have HO4 := hide ho4
    have HF4 := hide hf4
    have HR4 := hide (HR3.out.below hbl)
    have HG4 := hide (only_lowR HG3.out hbl HG3.out.size)
    have hz3 : w.heap.size < w3.heap.size := HZ3.out.lt
    have HZ4 := hide (HZ3.out.below hbl HZ3.out.lt)
    clear ho4 hf4 hbl HC HR3 HG3 HZ3 x3 x4 efq
    have z0 := HZ4.out.cell 0
    have y0 := HZ4.out.frozen 0
    have z1 := HZ4.out.cell 1
    have y1 := HZ4.out.frozen 1
    have z2 := HZ4.out.cell 2
    have y2 := HZ4.out.frozen 2
    have z3 := HZ4.out.cell 3
    have y3 := HZ4.out.frozen 3
    have z4 := HZ4.out.cell 4
    have y4 := HZ4.out.frozen 4
    have zl := HZ4.out.lt
    go_wp2
    refine bodyPost_ret (ret_row rfl _ _ w.heap.size 26 [.int .i64 t.sort, .int .i64 t.num, .string t.text, .slice E1 t.names.length e1, .slice E2 t.kids.length e2] (HZ4.out.setAll [.int .i64 t.sort, .int .i64 t.num, .string t.text, .slice E1 t.names.length e1, .slice E2 t.kids.length e2] rfl) _ rfl Tryz.underlying26 rfl (by kernel_rfl)) rfl ?_
    exact anyT_fin (t := t) HO4.out (HF4.out.mono hz3 (Nat.le_refl _)) (by omega) (by omega) HR4.out HG4.out hgw
  have i1 : ¬ ((v : Int) = 1) := by omega
  have hm : (v = 2 ∨ v = 3) ∨ (v ≠ 2 ∧ v ≠ 3) := by omega
  rcases hm with hm | ⟨hm2, hm3⟩
  · have hmi : (v : Int) = 2 ∨ (¬ ((v : Int) = 2) ∧ (v : Int) = 3) := by omega
    go_upto_region 6 with fail

    clear hv0 hv1
    rcases hmi with hmi | ⟨hmi, hmj⟩
    all_goals skip
    · skip
      have HC := hide (l5SomeOk_any true HR2.out (by omega))
      go_wp2_with fail
      refine HC.out.mono ?_
      rintro e w4 ⟨x, us, fq, k4, rfl, ho4, hn4, hx4, hk4, hr4, hg4, hok⟩
      have HR4 := hide hr4
      have HG4 := hide (only_trans HG2.out hg4)
      have HZ4 := hide (HZ2.out.grown hg4 (fun e => by injection e with e; omega))
      obtain ⟨B1, d1, B2, d2, f1, f2, rfl, k0, k1, k2, efq⟩ := ho4.oKind
      have htn := Kind.tn_ok hok
      have hgq : g ∉ fq := hn4.out (by have := HG2.out.size; omega)
      have HD := hide (dTree_any x _ fq L k4 g 1 w4 ho4 hn4.lt hok.1 hgq hr4 (by omega) (by omega))
      have hs4 : w.heap.size < w4.heap.size := HZ4.out.lt
      clear ho4 hn4 hr4 hg4 hok hgq k1 k2 efq HC HR2 HG2 HZ2
      go_wp2_with fail
      refine HD.out.mono ?_
      rintro e w5 ⟨t, us5, fq5, k5, rfl, ho5, hn5, hb5, hk5, hr5, hg5⟩
      obtain ⟨E1, e1, E2, e2, g1, g2, rfl, x0, x1, x2, x3, x4, efq⟩ := ho5.oTree
      have HO5 := hide ho5
      have HN5 := hide (hn5.mono (show w.heap.size + 1 ≤ w4.heap.size from hs4))
      have HR5 := hide hr5
      have HG5 := hide (only_trans HG4.out hg5)
      have HZ5 := hide (HZ4.out.grown hg5 (fun e => by injection e with e; omega))
      have hbt : t.bulk ≤ 680400 := by omega
      clear ho5 hn5 hr5 hg5 HD HR4 HG4 HZ4 x3 x4 efq
      have HSP := hide (spoilT_any t _ fq5 L k5 g (w.heap.size + 1) w5 HO5.out HN5.out (by omega) (by have := HZ5.out.lt; omega) HR5.out (by omega) (by omega))
      go_wp2_with fail
      refine HSP.out.mono ?_
      rintro e w6 ⟨t, us6, fq6, k6, rfl, ho6, hn6, hs6, hb6, hk6, hr6, hg6⟩
      obtain ⟨E1, e1, E2, e2, g1, g2, rfl, x0, x1, x2, x3, x4, efq⟩ := ho6.oTree
      have HO6 := hide ho6
      have HN6 := hide hn6
      have HR6 := hide hr6
      have HG6 := hide (only_trans HG5.out hg6)
      have HZ6 := hide (HZ5.out.grown hg6 (fun e => by injection e with e; omega))
      clear ho6 hn6 hs6 hr6 hg6 HSP HO5 HN5 HR5 HG5 HZ5 x3 x4 efq
      have z0 := HZ6.out.cell 0
      have y0 := HZ6.out.frozen 0
      have z1 := HZ6.out.cell 1
      have y1 := HZ6.out.frozen 1
      have z2 := HZ6.out.cell 2
      have y2 := HZ6.out.frozen 2
      have z3 := HZ6.out.cell 3
      have y3 := HZ6.out.frozen 3
      have z4 := HZ6.out.cell 4
      have y4 := HZ6.out.frozen 4
      have zl := HZ6.out.lt
      go_wp2
      refine bodyPost_ret (ret_row rfl _ _ w.heap.size 26 [.int .i64 t.sort, .int .i64 t.num, .string t.text, .slice E1 t.names.length e1, .slice E2 t.kids.length e2] (HZ6.out.setAll [.int .i64 t.sort, .int .i64 t.num, .string t.text, .slice E1 t.names.length e1, .slice E2 t.kids.length e2] rfl) _ rfl Tryz.underlying26 rfl (by kernel_rfl)) rfl ?_
      exact anyT_fin (t := t) HO6.out (HN6.out.fr) (by omega) (by omega) HR6.out HG6.out hgw
    · skip
      have HC := hide (l5SomeOk_any true HR2.out (by omega))
      go_wp2_with fail
      refine HC.out.mono ?_
      rintro e w4 ⟨x, us, fq, k4, rfl, ho4, hn4, hx4, hk4, hr4, hg4, hok⟩
      have HR4 := hide hr4
      have HG4 := hide (only_trans HG2.out hg4)
      have HZ4 := hide (HZ2.out.grown hg4 (fun e => by injection e with e; omega))
      obtain ⟨B1, d1, B2, d2, f1, f2, rfl, k0, k1, k2, efq⟩ := ho4.oKind
      have htn := Kind.tn_ok hok
      have hgq : g ∉ fq := hn4.out (by have := HG2.out.size; omega)
      have HD := hide (dTree_any x _ fq L k4 g 1 w4 ho4 hn4.lt hok.1 hgq hr4 (by omega) (by omega))
      have hs4 : w.heap.size < w4.heap.size := HZ4.out.lt
      clear ho4 hn4 hr4 hg4 hok hgq k1 k2 efq HC HR2 HG2 HZ2
      go_wp2_with fail
      refine HD.out.mono ?_
      rintro e w5 ⟨t, us5, fq5, k5, rfl, ho5, hn5, hb5, hk5, hr5, hg5⟩
      obtain ⟨E1, e1, E2, e2, g1, g2, rfl, x0, x1, x2, x3, x4, efq⟩ := ho5.oTree
      have HO5 := hide ho5
      have HN5 := hide (hn5.mono (show w.heap.size + 1 ≤ w4.heap.size from hs4))
      have HR5 := hide hr5
      have HG5 := hide (only_trans HG4.out hg5)
      have HZ5 := hide (HZ4.out.grown hg5 (fun e => by injection e with e; omega))
      have hbt : t.bulk ≤ 680400 := by omega
      clear ho5 hn5 hr5 hg5 HD HR4 HG4 HZ4 x3 x4 efq
      have HSP := hide (spoilT_any t _ fq5 L k5 g (w.heap.size + 1) w5 HO5.out HN5.out (by omega) (by have := HZ5.out.lt; omega) HR5.out (by omega) (by omega))
      go_wp2_with fail
      refine HSP.out.mono ?_
      rintro e w6 ⟨t, us6, fq6, k6, rfl, ho6, hn6, hs6, hb6, hk6, hr6, hg6⟩
      obtain ⟨E1, e1, E2, e2, g1, g2, rfl, x0, x1, x2, x3, x4, efq⟩ := ho6.oTree
      have HO6 := hide ho6
      have HN6 := hide hn6
      have HR6 := hide hr6
      have HG6 := hide (only_trans HG5.out hg6)
      have HZ6 := hide (HZ5.out.grown hg6 (fun e => by injection e with e; omega))
      clear ho6 hn6 hs6 hr6 hg6 HSP HO5 HN5 HR5 HG5 HZ5 x3 x4 efq
      have z0 := HZ6.out.cell 0
      have y0 := HZ6.out.frozen 0
      have z1 := HZ6.out.cell 1
      have y1 := HZ6.out.frozen 1
      have z2 := HZ6.out.cell 2
      have y2 := HZ6.out.frozen 2
      have z3 := HZ6.out.cell 3
      have y3 := HZ6.out.frozen 3
      have z4 := HZ6.out.cell 4
      have y4 := HZ6.out.frozen 4
      have zl := HZ6.out.lt
      go_wp2
      refine bodyPost_ret (ret_row rfl _ _ w.heap.size 26 [.int .i64 t.sort, .int .i64 t.num, .string t.text, .slice E1 t.names.length e1, .slice E2 t.kids.length e2] (HZ6.out.setAll [.int .i64 t.sort, .int .i64 t.num, .string t.text, .slice E1 t.names.length e1, .slice E2 t.kids.length e2] rfl) _ rfl Tryz.underlying26 rfl (by kernel_rfl)) rfl ?_
      exact anyT_fin (t := t) HO6.out (HN6.out.fr) (by omega) (by omega) HR6.out HG6.out hgw
  have i2 : ¬ ((v : Int) = 2) := by omega
  have i3 : ¬ ((v : Int) = 3) := by omega
  clear hv0 hv1 hm2 hm3
  have HP := hide (pick_any HR2.out (n := 2) (by omega) (by omega) (by omega))
  go_wp2_with fail
  refine HP.out.mono ?_
  rintro e w3 ⟨p, rfl, hp, h3, hg3⟩
  have HR3 := hide h3
  have HG3 := hide (only_trans HG2.out hg3)
  have HZ3 := hide (HZ2.out.grown hg3 (fun e => by injection e with e; omega))
  clear h3 hg3 HP HR2 HG2 HZ2
  have HC := hide (l5SomeOk_any (decide ((p : Int) = 0)) HR3.out (by omega))
  go_wp2_with fail
  refine HC.out.mono ?_
  rintro e w4 ⟨x, us, fq, k4, rfl, ho4, hn4, hx4, hk4, hr4, hg4, hok⟩
  have HR4 := hide hr4
  have HG4 := hide (only_trans HG3.out hg4)
  have HZ4 := hide (HZ3.out.grown hg4 (fun e => by injection e with e; omega))
  obtain ⟨B1, d1, B2, d2, f1, f2, rfl, k0, k1, k2, efq⟩ := ho4.oKind
  have htn := Kind.tn_ok hok
  have hgq : g ∉ fq := hn4.out (by have := HG3.out.size; omega)
  have HD := hide (dTree_any x _ fq L k4 g 1 w4 ho4 hn4.lt hok.1 hgq hr4 (by omega) (by omega))
  have hs4 : w.heap.size < w4.heap.size := HZ4.out.lt
  clear ho4 hn4 hr4 hg4 hok hgq k1 k2 efq HC HR3 HG3 HZ3
  go_wp2_with fail
  refine HD.out.mono ?_
  rintro e w5 ⟨t, us5, fq5, k5, rfl, ho5, hn5, hb5, hk5, hr5, hg5⟩
  obtain ⟨E1, e1, E2, e2, g1, g2, rfl, x0, x1, x2, x3, x4, efq⟩ := ho5.oTree
  have HO5 := hide ho5
  have HN5 := hide (hn5.mono (show w.heap.size + 1 ≤ w4.heap.size from hs4))
  have HR5 := hide hr5
  have HG5 := hide (only_trans HG4.out hg5)
  have HZ5 := hide (HZ4.out.grown hg5 (fun e => by injection e with e; omega))
  have hbt : t.bulk ≤ 680400 := by omega
  clear ho5 hn5 hr5 hg5 HD HR4 HG4 HZ4 x3 x4 efq
  have z0 := HZ5.out.cell 0
  have y0 := HZ5.out.frozen 0
  have z1 := HZ5.out.cell 1
  have y1 := HZ5.out.frozen 1
  have z2 := HZ5.out.cell 2
  have y2 := HZ5.out.frozen 2
  have z3 := HZ5.out.cell 3
  have y3 := HZ5.out.frozen 3
  have z4 := HZ5.out.cell 4
  have y4 := HZ5.out.frozen 4
  have zl := HZ5.out.lt
  go_wp2
  refine bodyPost_ret (ret_row rfl _ _ w.heap.size 26 [.int .i64 t.sort, .int .i64 t.num, .string t.text, .slice E1 t.names.length e1, .slice E2 t.kids.length e2] (HZ5.out.setAll [.int .i64 t.sort, .int .i64 t.num, .string t.text, .slice E1 t.names.length e1, .slice E2 t.kids.length e2] rfl) _ rfl Tryz.underlying26 rfl (by kernel_rfl)) rfl ?_
  exact anyT_fin (t := t) HO5.out (HN5.out.fr) (by omega) (by omega) HR5.out HG5.out hgw
end Go.Proofs.YtnaecdoeldoipaaGreatDoor
set_option linter.unusedVariables false
set_option linter.unusedSimpArgs false
namespace Go.Proofs.YtnaecdoeldoipaaGreatDoor
open Go.ChangeShapes Go.WideShapes Go.ChangeAt Go.RowKit

def EDrawW (g : Nat) (L : List UInt8) (k : Nat) (w : World) (e : Ending) (w' : World) : Prop :=
  ∃ (x : Event) (us : List Value) (fq : List Nat) (k' : Nat), e = .returned (.agg us.toArray) ∧ OwC w' x.cells us fq ∧ Fr fq w.heap.size w'.heap.size ∧ x.bulk ≤ 1001000 ∧ k' ≤ k + 8000000 ∧ RdD w' g L k' ∧ w.grownBy w' (some g)
theorem ev_ow {W : World} {x : ByteArray} {v : Int} {t : Tree} {us : List Value} {fq : List Nat} (h : OwC W t.cells us fq) (hx : x.size ≤ maxLen) (hv : (Lit.int .i64 v).wf = true) : OwC W (Event.mk x v t).cells ([.string x, .int .i64 v] ++ us) fq := by
  obtain ⟨C1, e1, C2, e2, q1, q2, rfl, k0, k1, k2, k3, k4, rfl⟩ := h.oTree
  exact OwC.mEvent (x := Event.mk x v t) hx hv k0 k1 k2 k3 k4
/-- an event as it is drawn, in its box -/
structure EvD (x : ByteArray) (v : Int) (t : Tree) (us : List Value) (fq : List Nat) (b g : Nat) (L : List UInt8) (w W : World) (k' : Nat) : Prop where
  X : Row W b 46 ([.string x, .int .i64 v] ++ us)
  ho : OwC W t.cells us fq
  fr : Fr fq (w.heap.size + 1) W.heap.size
  nb : b ∉ fq
  Z : Row W w.heap.size 46 [.string ⟨#[]⟩, .int .i64 0, .int .i64 0, .int .i64 0, .string ⟨#[]⟩, .slice none 0 0, .slice none 0 0]
  rd : RdD W g L k'
  gr : w.grownBy W (some g)
  hx : x.size ≤ 1000
  hv : -1000 ≤ v ∧ v ≤ 1000
  wb : w.heap.size < b
  gw : g < w.heap.size
  bk : t.bulk ≤ 1000000
section
variable {x x' : ByteArray} {v v' : Int} {t t' : Tree} {us us' : List Value} {fq fq' : List Nat} {b g : Nat} {L : List UInt8} {w W W' : World} {k' k2 : Nat}
theorem EvD.tick (h : EvD x v t us fq b g L w W k') (hg : W.grownBy W' (some g)) (hr : RdD W' g L k2) : EvD x v t us fq b g L w W' k2 := by
  have h1 := h.gw
  have h2 := h.wb
  have hno : g ∉ fq := fun hm => by have := (h.fr _ hm).1; omega
  exact ⟨h.X.grown hg (fun e => by injection e with e; omega), h.ho.grown hg h.fr.lt hno, h.fr.mono (Nat.le_refl _) hg.size, h.nb, h.Z.grown hg (fun e => by injection e with e; omega), hr, only_trans h.gr hg, h.hx, h.hv, h.wb, h.gw, h.bk⟩
theorem EvD.frame (h : EvD x v t us fq b g L w W k') (i : Nat) (u : Value) : OwC (W.setCell ⟨b, i, none⟩ u) t.cells us fq ∧ Fr fq (w.heap.size + 1) (W.setCell ⟨b, i, none⟩ u).heap.size ∧ Row (W.setCell ⟨b, i, none⟩ u) w.heap.size 46 [.string ⟨#[]⟩, .int .i64 0, .int .i64 0, .int .i64 0, .string ⟨#[]⟩, .slice none 0 0, .slice none 0 0] ∧ RdD (W.setCell ⟨b, i, none⟩ u) g L k' ∧ w.grownBy (W.setCell ⟨b, i, none⟩ u) (some g) := by
  have h1 := h.gw
  have h2 := h.wb
  have hb : Below b W (W.setCell ⟨b, i, none⟩ u) := (Below.refl _ _).setCell (p := ⟨b, i, none⟩) (Nat.le_refl _) _
  exact ⟨h.ho.setCell (a := ⟨b, i, none⟩) h.nb _, h.fr.mono (Nat.le_refl _) hb.size, h.Z.below hb h.wb, h.rd.low hb (by omega), only_lowR h.gr hb (by omega)⟩
theorem EvD.putx (h : EvD x v t us fq b g L w W k') (hx : x'.size ≤ 1000) : EvD x' v t us fq b g L w (W.setCell ⟨b, 0, none⟩ (.string x')) k' := by
  obtain ⟨a1, a2, a3, a4, a5⟩ := h.frame 0 (.string x')
  exact ⟨h.X.set 0 _, a1, a2, h.nb, a3, a4, a5, hx, h.hv, h.wb, h.gw, h.bk⟩
theorem EvD.putv (h : EvD x v t us fq b g L w W k') (hv : -1000 ≤ v' ∧ v' ≤ 1000) : EvD x v' t us fq b g L w (W.setCell ⟨b, 1, none⟩ (.int .i64 v')) k' := by
  obtain ⟨a1, a2, a3, a4, a5⟩ := h.frame 1 (.int .i64 v')
  exact ⟨h.X.set 1 _, a1, a2, h.nb, a3, a4, a5, h.hx, hv, h.wb, h.gw, h.bk⟩
theorem EvD.putt (h : EvD x v t us fq b g L w W k') (ho : OwC W t'.cells us' fq') (hf : Fr fq' (w.heap.size + 1) W.heap.size) (hn : b ∉ fq') (hb : t'.bulk ≤ 1000000) : EvD x v t' us' fq' b g L w (putN W b 2 us') k' := by
  have h1 := h.gw
  have h2 := h.wb
  have hgr := setN_grown us' 2 (grown_refl W (some b))
  have hbl : Below b W (putN W b 2 us') := below_of_grown hgr (Nat.le_refl _) (Nat.le_of_lt h.X.lt)
  have hl : us'.length = us.length := by rw [ho.length, h.ho.length, Tree.cells_len, Tree.cells_len]
  exact ⟨Row.setN us' [.string x, .int .i64 v] us hl h.X, ho.grown hgr hf.lt hn, hf.mono (Nat.le_refl _) hgr.size, hn, h.Z.below hbl h.wb, h.rd.low hbl (by omega), only_lowR h.gr hbl (by omega), h.hx, h.hv, h.wb, h.gw, hb⟩
theorem EvD.fin (h : EvD x v t us fq b g L w W k') {k0 : Nat} (hk : k' ≤ k0 + 8000000) : EDrawW g L k0 w (.returned (.agg ([Value.string x, Value.int .i64 v] ++ us).toArray)) (putN W w.heap.size 0 ([.string x, .int .i64 v] ++ us)) := by
  have hgr := setN_grown ([.string x, .int .i64 v] ++ us) 0 (grown_refl W (some w.heap.size))
  have hno : w.heap.size ∉ fq := fun hm => by have := (h.fr _ hm).1; omega
  have hb2 : Below w.heap.size W (putN W w.heap.size 0 ([.string x, .int .i64 v] ++ us)) := below_of_grown hgr (Nat.le_refl _) h.gr.size
  refine ⟨⟨x, v, t⟩, _, fq, k', rfl, (ev_ow h.ho (by have := h.hx; unfold maxLen; omega) (wfiR (by have := h.hv; omega) (by have := h.hv; omega))).grown hgr h.fr.lt hno, h.fr.mono (by omega) hgr.size, ?_, hk, h.rd.low hb2 h.gw, only_lowR h.gr hb2 (Nat.le_refl _)⟩
  have h1 := h.hx
  have h2 := h.bk
  rw [Event.bulk_eq]
  simp only
  omega
end
set_option maxRecDepth 100000 in
set_option maxHeartbeats 4000000 in
theorem l5Event_any {L : List UInt8} {k g : Nat} {w : World} (h : RdD w g L k) (hk : k ≤ 1000000) :
    Calls Tryz.prog 73 #[.pointer (some ⟨g, 0, none⟩)] w (EDrawW g L k w) := by
  have hgw := h.lt
  have HR0 := hide h
  clear h
  go_enter Tryz.func73, Tryz.ntmps73
  go_upto_region 1 with fail
  generalize hw1 : w.alloc _ = w1
  have hb0 : Below w.heap.size w w1 := by rw [← hw1]; exact (Below.refl _ _).alloc (Nat.le_refl _) _
  have HZ := hide (show Row w1 w.heap.size 46 [.string ⟨#[]⟩, .int .i64 0, .int .i64 0, .int .i64 0, .string ⟨#[]⟩, .slice none 0 0, .slice none 0 0] from by rw [← hw1]; exact Row.new w _ _)
  have HR := hide (HR0.out.below hb0)
  have HG := hide (grownBy_below hb0 (some g))
  have HC := hide (lit_of HR.out (by omega) ([⟨#[111, 114, 100, 101, 114]⟩, ⟨#[112, 97, 105, 100]⟩, ⟨#[109, 111, 118, 101, 100]⟩, ⟨#[120]⟩, ⟨#[97, 98, 99, 100, 101, 102, 103, 104]⟩]) (by decide) (by decide))
  clear hw1 hb0 HR0
  go_wp2_with fail
  refine HC.out.mono ?_
  rintro e w2 ⟨x, hx, rfl, h2, hg2⟩
  have hxs : x.size ≤ 8 := by
    simp only [List.mem_cons, List.not_mem_nil, or_false] at hx
    rcases hx with rfl | rfl | rfl | rfl | rfl
    all_goals decide
  have HR2 := hide h2
  have HG2 := hide (only_trans HG.out hg2)
  have HZ2 := hide (HZ.out.grown hg2 (fun e => by injection e with e; omega))
  have HP := hide (pick_any HR2.out (n := 12) (by omega) (by omega) (by omega))
  clear hx h2 hg2 HC HR HG HZ
  go_wp2_with fail
  refine HP.out.mono ?_
  rintro e w3 ⟨p, rfl, hp, h3, hg3⟩
  have HR3 := hide h3
  have HG3 := hide (only_trans HG2.out hg3)
  have HZ3 := hide (HZ2.out.grown hg3 (fun e => by injection e with e; omega))
  clear h3 hg3 HP HR2 HG2 HZ2
  have HC := hide (l5SomeOk_any true HR3.out (by omega))
  go_wp2_with fail
  refine HC.out.mono ?_
  rintro e w4 ⟨kd, us, fqk, k4, rfl, ho4, hn4, hx4, hk4, hr4, hg4, hok⟩
  have HG4 := hide (only_trans HG3.out hg4)
  have HZ4 := hide (HZ3.out.grown hg4 (fun e => by injection e with e; omega))
  obtain ⟨B1, d1, B2, d2, f1, f2, rfl, y0, y1, y2, efq⟩ := ho4.oKind
  have htn := Kind.tn_ok hok
  have hgq : g ∉ fqk := hn4.out (by have := HG3.out.size; omega)
  have HD := hide (dTree_any kd _ fqk L k4 g 1 w4 ho4 hn4.lt hok.1 hgq hr4 (by omega) (by omega))
  have hs4 : w.heap.size < w4.heap.size := HZ4.out.lt
  clear ho4 hn4 hr4 hg4 hok hgq y1 y2 efq HC HR3 HG3 HZ3
  go_wp2_with fail
  refine HD.out.mono ?_
  rintro e w5 ⟨t, us5, fq, k5, rfl, ho5, hn5, hb5, hk5, hr5, hg5⟩
  obtain ⟨E1, e1, E2, e2, g1, g2, rfl, x0, x1, x2, x3, x4, efq⟩ := ho5.oTree
  have HO5 := hide ho5
  have HN5 := hide hn5
  have HR5 := hide hr5
  have HG5 := hide (only_trans HG4.out hg5)
  have HZ5 := hide (HZ4.out.grown hg5 (fun e => by injection e with e; omega))
  have hs5 : w4.heap.size ≤ w5.heap.size := hg5.size
  clear ho5 hn5 hr5 hg5 HD HG4 HZ4 x3 x4 efq
  obtain ⟨v, hv⟩ : ∃ v : Int, 1 + (p : Int) = v := ⟨_, rfl⟩
  have hv1 : -1000 ≤ v ∧ v ≤ 1000 := by omega
  go_upto_region 2 with fail
  (try rw [hv])
  clear hv
  generalize hw6 : World.alloc _ _ = w6
  have hbA : Below w5.heap.size w5 w6 := by rw [← hw6]; exact (Below.refl _ _).alloc (Nat.le_refl _) _
  have HE := hide (show EvD x v t [.int .i64 t.sort, .int .i64 t.num, .string t.text, .slice E1 t.names.length e1, .slice E2 t.kids.length e2] fq w5.heap.size g L w w6 k5 from
    ⟨by rw [← hw6]; exact Row.new w5 _ _, HO5.out.below hbA HN5.out.lt, HN5.out.fr.mono (by omega) hbA.size, fun hm => Nat.lt_irrefl _ (HN5.out.lt _ hm), HZ5.out.below hbA HZ5.out.lt, HR5.out.below hbA, only_lowR HG5.out hbA HG5.out.size, by omega, hv1, by omega, hgw, by omega⟩)
  clear hw6 hbA HO5 HN5 HR5 HG5 HZ5
  obtain ⟨b, hb⟩ : ∃ b, w5.heap.size = b := ⟨_, rfl⟩
  rw [hb] at HE ⊢
  clear hb
  have HP := hide (pick_any HE.out.rd (n := 20) (by omega) (by omega) (by omega))
  go_wp2_with fail
  refine HP.out.mono ?_
  rintro e w7 ⟨q, rfl, hq, h7, hg7⟩
  have HF := hide (HE.out.tick hg7 h7)
  have hwb := HE.out.wb
  clear HE HP h7 hg7
  by_cases hq0 : q = 0
  · subst hq0
    have HC := hide (lit_of HF.out.rd (by omega) ([⟨#[]⟩, ⟨#[65]⟩, ⟨#[57, 97]⟩, ⟨#[116, 111, 111, 108, 111, 110, 103, 97, 97]⟩]) (by decide) (by decide))
    go_wp2_with fail
    refine HC.out.mono ?_
    rintro e w8 ⟨x2, hx2, rfl, h8, hg8⟩
    have hxs2 : x2.size ≤ 9 := by
      simp only [List.mem_cons, List.not_mem_nil, or_false] at hx2
      rcases hx2 with rfl | rfl | rfl | rfl
      all_goals decide
    have HU := hide (HF.out.tick hg8 h8)
    clear HC HF h8 hg8 hx2
    have b0 := HU.out.X.cell 0
    have bf0 := HU.out.X.frozen 0
    have bl_ := HU.out.X.lt
    go_upto_region 11 with fail
    generalize hwz : World.setCell _ _ _ = wz
    have HW := hide (show EvD x2 v t [.int .i64 t.sort, .int .i64 t.num, .string t.text, .slice E1 t.names.length e1, .slice E2 t.kids.length e2] fq b g L w wz (k5 + 1 + 1) from by rw [← hwz]; exact HU.out.putx (by omega))
    clear hwz HU b0 bf0 bl_
    obtain ⟨x, rfl⟩ : ∃ z, z = x2 := ⟨_, rfl⟩
    have p0 := HW.out.X.cell 0
    have pf0 := HW.out.X.frozen 0
    have p1 := HW.out.X.cell 1
    have pf1 := HW.out.X.frozen 1
    have p2 := HW.out.X.cell 2
    have pf2 := HW.out.X.frozen 2
    have p3 := HW.out.X.cell 3
    have pf3 := HW.out.X.frozen 3
    have p4 := HW.out.X.cell 4
    have pf4 := HW.out.X.frozen 4
    have p5 := HW.out.X.cell 5
    have pf5 := HW.out.X.frozen 5
    have p6 := HW.out.X.cell 6
    have pf6 := HW.out.X.frozen 6
    have pl := HW.out.X.lt
    have z0 := HW.out.Z.cell 0
    have zf0 := HW.out.Z.frozen 0
    have z1 := HW.out.Z.cell 1
    have zf1 := HW.out.Z.frozen 1
    have z2 := HW.out.Z.cell 2
    have zf2 := HW.out.Z.frozen 2
    have z3 := HW.out.Z.cell 3
    have zf3 := HW.out.Z.frozen 3
    have z4 := HW.out.Z.cell 4
    have zf4 := HW.out.Z.frozen 4
    have z5 := HW.out.Z.cell 5
    have zf5 := HW.out.Z.frozen 5
    have z6 := HW.out.Z.cell 6
    have zf6 := HW.out.Z.frozen 6
    have zl := HW.out.Z.lt
    go_wp2
    refine bodyPost_ret (ret_row rfl _ _ w.heap.size 46 [.string x, .int .i64 v, .int .i64 t.sort, .int .i64 t.num, .string t.text, .slice E1 t.names.length e1, .slice E2 t.kids.length e2] (HW.out.Z.setAll [.string x, .int .i64 v, .int .i64 t.sort, .int .i64 t.num, .string t.text, .slice E1 t.names.length e1, .slice E2 t.kids.length e2] rfl) _ rfl Tryz.underlying46 rfl (by kernel_rfl)) rfl ?_
    exact HW.out.fin (by omega)
  have i0 : ¬ ((q : Int) = 0) := by omega
  by_cases hq1 : q = 1
  · subst hq1
    have hAA : Below w7.heap.size w7 (w7.alloc (.cells #[.int .i64 0, .int .i64 (-1), .int .i64 13, .int .i64 256] 3)) := (Below.refl _ _).alloc (Nat.le_refl _) _
    have HA := hide (HF.out.tick (grownBy_below hAA (some g)) (HF.out.rd.below hAA))
    have hR := Row.new w7 3 [.int .i64 0, .int .i64 (-1), .int .i64 13, .int .i64 256]
    have HRW := hide hR
    have HP := hide (pick_any HA.out.rd (n := 4) (by omega) (by omega) (by omega))
    have hb7 : b < w7.heap.size := HF.out.X.lt
    have hgb := HF.out.gw
    clear hAA hR HF
    go_wp2_with fail
    refine HP.out.mono ?_
    rintro e w8 ⟨r, rfl, hr, h8, hg8⟩
    have HU := hide (HA.out.tick hg8 h8)
    have hrow := HRW.out.grown hg8 (fun e => by injection e with e; omega)
    obtain ⟨v2, hv2c, hv2⟩ : ∃ v2 : Int, w8.cell? ⟨w7.heap.size, r, none⟩ = some (.int .i64 v2) ∧ (-1000 ≤ v2 ∧ v2 ≤ 1000) := by
      rw [hrow.cell]
      obtain rfl | rfl | rfl | rfl : r = 0 ∨ r = 1 ∨ r = 2 ∨ r = 3 := by omega
      · exact ⟨0, rfl, by omega⟩
      · exact ⟨-1, rfl, by omega⟩
      · exact ⟨13, rfl, by omega⟩
      · exact ⟨256, rfl, by omega⟩
    have hql : w7.heap.size < w8.heap.size := hrow.lt
    have hr4 : (r : Int) < 4 := by omega
    clear HP HA h8 hg8 hrow HRW
    have b1 := HU.out.X.cell 1
    have bf1 := HU.out.X.frozen 1
    have bl_ := HU.out.X.lt
    go_upto_region 11 with fail
    generalize hwz : World.setCell _ _ _ = wz
    have HW := hide (show EvD x v2 t [.int .i64 t.sort, .int .i64 t.num, .string t.text, .slice E1 t.names.length e1, .slice E2 t.kids.length e2] fq b g L w wz (k5 + 1 + 1) from by rw [← hwz]; exact HU.out.putv hv2)
    clear hwz HU b1 bf1 bl_ hv2c hql
    obtain ⟨v, rfl⟩ : ∃ z, z = v2 := ⟨_, rfl⟩
    have p0 := HW.out.X.cell 0
    have pf0 := HW.out.X.frozen 0
    have p1 := HW.out.X.cell 1
    have pf1 := HW.out.X.frozen 1
    have p2 := HW.out.X.cell 2
    have pf2 := HW.out.X.frozen 2
    have p3 := HW.out.X.cell 3
    have pf3 := HW.out.X.frozen 3
    have p4 := HW.out.X.cell 4
    have pf4 := HW.out.X.frozen 4
    have p5 := HW.out.X.cell 5
    have pf5 := HW.out.X.frozen 5
    have p6 := HW.out.X.cell 6
    have pf6 := HW.out.X.frozen 6
    have pl := HW.out.X.lt
    have z0 := HW.out.Z.cell 0
    have zf0 := HW.out.Z.frozen 0
    have z1 := HW.out.Z.cell 1
    have zf1 := HW.out.Z.frozen 1
    have z2 := HW.out.Z.cell 2
    have zf2 := HW.out.Z.frozen 2
    have z3 := HW.out.Z.cell 3
    have zf3 := HW.out.Z.frozen 3
    have z4 := HW.out.Z.cell 4
    have zf4 := HW.out.Z.frozen 4
    have z5 := HW.out.Z.cell 5
    have zf5 := HW.out.Z.frozen 5
    have z6 := HW.out.Z.cell 6
    have zf6 := HW.out.Z.frozen 6
    have zl := HW.out.Z.lt
    go_wp2
    refine bodyPost_ret (ret_row rfl _ _ w.heap.size 46 [.string x, .int .i64 v, .int .i64 t.sort, .int .i64 t.num, .string t.text, .slice E1 t.names.length e1, .slice E2 t.kids.length e2] (HW.out.Z.setAll [.string x, .int .i64 v, .int .i64 t.sort, .int .i64 t.num, .string t.text, .slice E1 t.names.length e1, .slice E2 t.kids.length e2] rfl) _ rfl Tryz.underlying46 rfl (by kernel_rfl)) rfl ?_
    exact HW.out.fin (by omega)
  have i1 : ¬ ((q : Int) = 1) := by omega
  by_cases hq2 : q = 2
  · subst hq2
    have HC := hide (l5Any_any HF.out.rd (by omega))
    go_wp2_with fail
    refine HC.out.mono ?_
    rintro e w8 ⟨t2, us8, fq8, k8, rfl, ho8, hf8, hb8, hk8, hr8, hg8⟩
    have HU := hide (HF.out.tick hg8 hr8)
    clear hr8 hg8
    obtain ⟨E1, e1, E2, e2, g1, g2, rfl, x0, x1, x2, x3, x4, efq⟩ := ho8.oTree
    have HO8 := hide ho8
    have HF8 := hide hf8
    have hb7 : b < w7.heap.size := HF.out.X.lt
    have hs7 : w.heap.size + 1 ≤ w7.heap.size := by omega
    clear ho8 hf8 x3 x4 efq HC HF
    have b0 := HU.out.X.cell 0
    have bf0 := HU.out.X.frozen 0
    have b1 := HU.out.X.cell 1
    have bf1 := HU.out.X.frozen 1
    have b2 := HU.out.X.cell 2
    have bf2 := HU.out.X.frozen 2
    have b3 := HU.out.X.cell 3
    have bf3 := HU.out.X.frozen 3
    have b4 := HU.out.X.cell 4
    have bf4 := HU.out.X.frozen 4
    have b5 := HU.out.X.cell 5
    have bf5 := HU.out.X.frozen 5
    have b6 := HU.out.X.cell 6
    have bf6 := HU.out.X.frozen 6
    have bl := HU.out.X.lt
    go_upto_region 11 with fail
    generalize hwz : World.setCell (World.setCell (World.setCell (World.setCell (World.setCell _ _ _) _ _) _ _) _ _) _ _ = wz
    have HW := hide (show EvD x v t2 [.int .i64 t2.sort, .int .i64 t2.num, .string t2.text, .slice E1 t2.names.length e1, .slice E2 t2.kids.length e2] fq8 b g L w wz (k8) from by
      rw [← hwz]
      exact HU.out.putt HO8.out (HF8.out.mono hs7 (Nat.le_refl _)) (fun hm => by have := (HF8.out _ hm).1; omega) (by omega))
    clear hwz HU HO8 HF8 b0 bf0 b1 bf1 b2 bf2 b3 bf3 b4 bf4 b5 bf5 b6 bf6 bl
    obtain ⟨t, rfl⟩ : ∃ z, z = t2 := ⟨_, rfl⟩
    have p0 := HW.out.X.cell 0
    have pf0 := HW.out.X.frozen 0
    have p1 := HW.out.X.cell 1
    have pf1 := HW.out.X.frozen 1
    have p2 := HW.out.X.cell 2
    have pf2 := HW.out.X.frozen 2
    have p3 := HW.out.X.cell 3
    have pf3 := HW.out.X.frozen 3
    have p4 := HW.out.X.cell 4
    have pf4 := HW.out.X.frozen 4
    have p5 := HW.out.X.cell 5
    have pf5 := HW.out.X.frozen 5
    have p6 := HW.out.X.cell 6
    have pf6 := HW.out.X.frozen 6
    have pl := HW.out.X.lt
    have z0 := HW.out.Z.cell 0
    have zf0 := HW.out.Z.frozen 0
    have z1 := HW.out.Z.cell 1
    have zf1 := HW.out.Z.frozen 1
    have z2 := HW.out.Z.cell 2
    have zf2 := HW.out.Z.frozen 2
    have z3 := HW.out.Z.cell 3
    have zf3 := HW.out.Z.frozen 3
    have z4 := HW.out.Z.cell 4
    have zf4 := HW.out.Z.frozen 4
    have z5 := HW.out.Z.cell 5
    have zf5 := HW.out.Z.frozen 5
    have z6 := HW.out.Z.cell 6
    have zf6 := HW.out.Z.frozen 6
    have zl := HW.out.Z.lt
    go_wp2
    refine bodyPost_ret (ret_row rfl _ _ w.heap.size 46 [.string x, .int .i64 v, .int .i64 t.sort, .int .i64 t.num, .string t.text, .slice E1 t.names.length e1, .slice E2 t.kids.length e2] (HW.out.Z.setAll [.string x, .int .i64 v, .int .i64 t.sort, .int .i64 t.num, .string t.text, .slice E1 t.names.length e1, .slice E2 t.kids.length e2] rfl) _ rfl Tryz.underlying46 rfl (by kernel_rfl)) rfl ?_
    exact HW.out.fin (by omega)
  have i2 : ¬ ((q : Int) = 2) := by omega
  by_cases hq3 : q = 3
  · subst hq3
    have HC := hide (l5Full_any 120 (by omega) (by omega) w7)
    go_wp2_with fail
    refine HC.out.mono ?_
    rintro e w8 ⟨t2, us8, fq8, rfl, ho8, hf8, hb8, hbl⟩
    have HU := hide (HF.out.tick (grownBy_below hbl (some g)) (HF.out.rd.below hbl))
    clear hbl
    obtain ⟨E1, e1, E2, e2, g1, g2, rfl, x0, x1, x2, x3, x4, efq⟩ := ho8.oTree
    have HO8 := hide ho8
    have HF8 := hide hf8
    have hb7 : b < w7.heap.size := HF.out.X.lt
    have hs7 : w.heap.size + 1 ≤ w7.heap.size := by omega
    clear ho8 hf8 x3 x4 efq HC HF
    have b0 := HU.out.X.cell 0
    have bf0 := HU.out.X.frozen 0
    have b1 := HU.out.X.cell 1
    have bf1 := HU.out.X.frozen 1
    have b2 := HU.out.X.cell 2
    have bf2 := HU.out.X.frozen 2
    have b3 := HU.out.X.cell 3
    have bf3 := HU.out.X.frozen 3
    have b4 := HU.out.X.cell 4
    have bf4 := HU.out.X.frozen 4
    have b5 := HU.out.X.cell 5
    have bf5 := HU.out.X.frozen 5
    have b6 := HU.out.X.cell 6
    have bf6 := HU.out.X.frozen 6
    have bl := HU.out.X.lt
    go_upto_region 11 with fail
    generalize hwz : World.setCell (World.setCell (World.setCell (World.setCell (World.setCell _ _ _) _ _) _ _) _ _) _ _ = wz
    have HW := hide (show EvD x v t2 [.int .i64 t2.sort, .int .i64 t2.num, .string t2.text, .slice E1 t2.names.length e1, .slice E2 t2.kids.length e2] fq8 b g L w wz (k5 + 1) from by
      rw [← hwz]
      exact HU.out.putt HO8.out (HF8.out.mono hs7 (Nat.le_refl _)) (fun hm => by have := (HF8.out _ hm).1; omega) (by omega))
    clear hwz HU HO8 HF8 b0 bf0 b1 bf1 b2 bf2 b3 bf3 b4 bf4 b5 bf5 b6 bf6 bl
    obtain ⟨t, rfl⟩ : ∃ z, z = t2 := ⟨_, rfl⟩
    have p0 := HW.out.X.cell 0
    have pf0 := HW.out.X.frozen 0
    have p1 := HW.out.X.cell 1
    have pf1 := HW.out.X.frozen 1
    have p2 := HW.out.X.cell 2
    have pf2 := HW.out.X.frozen 2
    have p3 := HW.out.X.cell 3
    have pf3 := HW.out.X.frozen 3
    have p4 := HW.out.X.cell 4
    have pf4 := HW.out.X.frozen 4
    have p5 := HW.out.X.cell 5
    have pf5 := HW.out.X.frozen 5
    have p6 := HW.out.X.cell 6
    have pf6 := HW.out.X.frozen 6
    have pl := HW.out.X.lt
    have z0 := HW.out.Z.cell 0
    have zf0 := HW.out.Z.frozen 0
    have z1 := HW.out.Z.cell 1
    have zf1 := HW.out.Z.frozen 1
    have z2 := HW.out.Z.cell 2
    have zf2 := HW.out.Z.frozen 2
    have z3 := HW.out.Z.cell 3
    have zf3 := HW.out.Z.frozen 3
    have z4 := HW.out.Z.cell 4
    have zf4 := HW.out.Z.frozen 4
    have z5 := HW.out.Z.cell 5
    have zf5 := HW.out.Z.frozen 5
    have z6 := HW.out.Z.cell 6
    have zf6 := HW.out.Z.frozen 6
    have zl := HW.out.Z.lt
    go_wp2
    refine bodyPost_ret (ret_row rfl _ _ w.heap.size 46 [.string x, .int .i64 v, .int .i64 t.sort, .int .i64 t.num, .string t.text, .slice E1 t.names.length e1, .slice E2 t.kids.length e2] (HW.out.Z.setAll [.string x, .int .i64 v, .int .i64 t.sort, .int .i64 t.num, .string t.text, .slice E1 t.names.length e1, .slice E2 t.kids.length e2] rfl) _ rfl Tryz.underlying46 rfl (by kernel_rfl)) rfl ?_
    exact HW.out.fin (by omega)
  have i3 : ¬ ((q : Int) = 3) := by omega
  have p0 := HF.out.X.cell 0
  have pf0 := HF.out.X.frozen 0
  have p1 := HF.out.X.cell 1
  have pf1 := HF.out.X.frozen 1
  have p2 := HF.out.X.cell 2
  have pf2 := HF.out.X.frozen 2
  have p3 := HF.out.X.cell 3
  have pf3 := HF.out.X.frozen 3
  have p4 := HF.out.X.cell 4
  have pf4 := HF.out.X.frozen 4
  have p5 := HF.out.X.cell 5
  have pf5 := HF.out.X.frozen 5
  have p6 := HF.out.X.cell 6
  have pf6 := HF.out.X.frozen 6
  have pl := HF.out.X.lt
  have z0 := HF.out.Z.cell 0
  have zf0 := HF.out.Z.frozen 0
  have z1 := HF.out.Z.cell 1
  have zf1 := HF.out.Z.frozen 1
  have z2 := HF.out.Z.cell 2
  have zf2 := HF.out.Z.frozen 2
  have z3 := HF.out.Z.cell 3
  have zf3 := HF.out.Z.frozen 3
  have z4 := HF.out.Z.cell 4
  have zf4 := HF.out.Z.frozen 4
  have z5 := HF.out.Z.cell 5
  have zf5 := HF.out.Z.frozen 5
  have z6 := HF.out.Z.cell 6
  have zf6 := HF.out.Z.frozen 6
  have zl := HF.out.Z.lt
  go_wp2
  refine bodyPost_ret (ret_row rfl _ _ w.heap.size 46 [.string x, .int .i64 v, .int .i64 t.sort, .int .i64 t.num, .string t.text, .slice E1 t.names.length e1, .slice E2 t.kids.length e2] (HF.out.Z.setAll [.string x, .int .i64 v, .int .i64 t.sort, .int .i64 t.num, .string t.text, .slice E1 t.names.length e1, .slice E2 t.kids.length e2] rfl) _ rfl Tryz.underlying46 rfl (by kernel_rfl)) rfl ?_
  exact HF.out.fin (by omega)
def EventDrawn (w : World) (e : Ending) (w' : World) : Prop := ∃ (us : List Value) (t : Event) (fq : List Nat), e = .returned (.agg us.toArray) ∧ OwC w' t.cells us fq ∧ Fr fq w.heap.size w'.heap.size ∧ t.bulk ≤ 1001000 ∧ Below w.heap.size w w'
set_option maxRecDepth 100000 in
set_option maxHeartbeats 1000000 in
theorem drawEventPack_any (l : List UInt8) (A : Option Addr) (n c : Nat) (fp : List Nat) (w : World) (ho : Ow w (.s 1 l.length (l.flatMap byteC)) (.slice A n c) fp) (hf : Lt fp w.heap.size) (hsz : l.length ≤ 1048576) :
    Calls Tryz.prog 29 #[.slice A n c] w (EventDrawn w) := by
  have HO := hide ho
  clear ho
  go_enter Tryz.func29, Tryz.ntmps29
  go_upto_region 1 with fail
  generalize hw1 : w.alloc _ = w1
  have hb1 : Below w.heap.size w w1 := by rw [← hw1]; exact (Below.refl _ _).alloc (Nat.le_refl _) _
  have HZ := hide (show Row w1 w.heap.size 46 [.string ⟨#[]⟩, .int .i64 0, .int .i64 0, .int .i64 0, .string ⟨#[]⟩, .slice none 0 0, .slice none 0 0] from by rw [← hw1]; exact Row.new w _ _)
  have hs1 : w.heap.size < w1.heap.size := HZ.out.lt
  have HP := hide (open_any l A n c fp w1 (HO.out.below hb1 hf) (hf.up hb1) hsz)
  have HB1 := hide hb1
  clear hw1 hb1 HO
  go_wp2_with fail
  refine HP.out.mono ?_
  rintro e w2 ⟨L, rfl, hr, hb2⟩
  have HQ := hide (l5Event_any hr (by omega))
  have HB2 := hide (HB1.out.trans (hb2.mono HB1.out.size))
  have HZ2 := hide (HZ.out.below hb2 HZ.out.lt)
  have hs2 : w.heap.size < w2.heap.size := HZ2.out.lt
  clear hr hb2 HP HB1 HZ
  go_wp2_with fail
  refine HQ.out.mono ?_
  rintro e w3 ⟨t, us, fq, k', rfl, ho3, hn3, hl3, hk3, hr3, hg3⟩
  have HO3 := hide ho3
  obtain ⟨B1, d1, B2, d2, g1, g2, rfl, x0, x1, x2, x3, x4, x5, x6, efq⟩ := ho3.oEvent
  have HB3 := hide (HB2.out.trans (below_of_grown hg3 (Nat.le_of_lt hs1) HB2.out.size))
  have HZ3 := hide (HZ2.out.grown hg3 (fun e => by injection e with e; omega))
  have HN3 := hide hn3
  clear ho3 hn3 hr3 hg3 HQ HB2 HZ2 x5 x6 efq
  have z0 := HZ3.out.cell 0
  have q0 := HZ3.out.frozen 0
  have z1 := HZ3.out.cell 1
  have q1 := HZ3.out.frozen 1
  have z2 := HZ3.out.cell 2
  have q2 := HZ3.out.frozen 2
  have z3 := HZ3.out.cell 3
  have q3 := HZ3.out.frozen 3
  have z4 := HZ3.out.cell 4
  have q4 := HZ3.out.frozen 4
  have z5 := HZ3.out.cell 5
  have q5 := HZ3.out.frozen 5
  have z6 := HZ3.out.cell 6
  have q6 := HZ3.out.frozen 6
  have zl := HZ3.out.lt
  go_wp2
  refine bodyPost_ret (ret_row rfl _ _ w.heap.size 46 [.string t.type_, .int .i64 t.version, .int .i64 t.body.sort, .int .i64 t.body.num, .string t.body.text, .slice B1 t.body.names.length d1, .slice B2 t.body.kids.length d2] (HZ3.out.setAll [.string t.type_, .int .i64 t.version, .int .i64 t.body.sort, .int .i64 t.body.num, .string t.body.text, .slice B1 t.body.names.length d1, .slice B2 t.body.kids.length d2] rfl) _ rfl Tryz.underlying46 rfl (by kernel_rfl)) rfl ?_
  have hgr := setN_grown [.string t.type_, .int .i64 t.version, .int .i64 t.body.sort, .int .i64 t.body.num, .string t.body.text, .slice B1 t.body.names.length d1, .slice B2 t.body.kids.length d2] 0 (grown_refl w3 (some w.heap.size))
  have hno : w.heap.size ∉ fq := fun hm => by have := (HN3.out _ hm).1; omega
  exact ⟨_, t, fq, rfl, HO3.out.grown hgr HN3.out.lt hno, HN3.out.mono (by omega) hgr.size, hl3, HB3.out.trans (below_of_grown hgr (Nat.le_refl _) HB3.out.size)⟩
end Go.Proofs.YtnaecdoeldoipaaGreatDoor
set_option linter.unusedVariables false
set_option linter.unusedSimpArgs false
namespace Go.Proofs.YtnaecdoeldoipaaGreatDoor
open Go.ChangeShapes Go.WideShapes Go.ChangeAt Go.RowKit

end Go.Proofs.YtnaecdoeldoipaaGreatDoor
