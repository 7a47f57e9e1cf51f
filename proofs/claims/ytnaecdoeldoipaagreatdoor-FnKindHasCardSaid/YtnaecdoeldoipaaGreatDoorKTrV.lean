/-
  The draws of the reference: a tree of a schema. Printed by gen/dtree.py. TreeRead of the reference. A good tree is known by its text.
-/
import Derived.Deep.RegionHeld3
import Derived.Deep.RegionLaw
import Derived.Deep.Cut
import Derived.Test.YtnaecdoeldoipaaGreatDoorKTreeTS
import Derived.Test.YtnaecdoeldoipaaGreatDoorKTrT
import Derived.Test.YtnaecdoeldoipaaGreatDoorKDrawU
import Derived.Test.YtnaecdoeldoipaaGreatDoorKTrS4
set_option linter.unusedVariables false
set_option linter.unusedSimpArgs false
namespace Go.Proofs.YtnaecdoeldoipaaGreatDoor
open Go.ChangeShapes Go.WideShapes Go.ChangeAt Go.RowKit

def TDraw (g : Nat) (L : List UInt8) (k N M : Nat) (w : World) (e : Ending) (w' : World) : Prop :=
  ∃ (x : Tree) (us : List Value) (fq : List Nat) (k' : Nat), e = .returned (.agg us.toArray) ∧ OwC w' x.cells us fq ∧ New w' fq w.heap.size ∧ x.bulk ≤ N ∧ k' ≤ k + M ∧ RdD w' g L k' ∧ w.grownBy w' (some g)
def DTree (x : Kind) : Prop := ∀ (us : List Value) (fp : List Nat) (L : List UInt8) (k g lv : Nat) (w : World), OwC w x.cells us fp → Lt fp w.heap.size → x.good lv → g ∉ fp → RdD w g L k → k + x.tp ≤ 100000000 → x.tn ≤ 1000000 →
  Calls Tryz.prog 54 #[.pointer (some ⟨g, 0, none⟩), .agg us.toArray] w (TDraw g L k x.tn x.tp w)
/-- the state of the drawing: the schema's box, the result's block, what the schema's slices hold, the source -/
structure TrD (s : Int) (ns : List ByteArray) (ks : List Kind) (A1 : Option Addr) (c1 : Nat) (A2 : Option Addr) (c2 : Nat) (f1 f2 : List Nat) (g : Nat) (L : List UInt8) (w W : World) (k' : Nat) : Prop where
  K : Row W w.heap.size 38 [.int .i64 s, .slice A1 ns.length c1, .slice A2 ks.length c2]
  Z : Row W (w.heap.size + 1) 26 [.int .i64 0, .int .i64 0, .string .empty, .slice none 0 0, .slice none 0 0]
  o1 : Ow W (.s 1 ns.length (ns.flatMap strC)) (.slice A1 ns.length c1) f1
  o2 : Ow W (.s 3 ks.length (ks.flatMap Kind.cells)) (.slice A2 ks.length c2) f2
  lt : Lt (f1 ++ f2) w.heap.size
  ng : g ∉ f1 ++ f2
  gw : g < w.heap.size
  rd : RdD W g L k'
  gr : w.grownBy W (some g)
section
variable {s : Int} {ns : List ByteArray} {ks : List Kind} {A1 : Option Addr} {c1 : Nat} {A2 : Option Addr} {c2 : Nat} {f1 f2 : List Nat} {g : Nat} {L : List UInt8} {w W W' : World} {k' k2 : Nat}
theorem TrD.tick (h : TrD s ns ks A1 c1 A2 c2 f1 f2 g L w W k') (hg : W.grownBy W' (some g)) (hr : RdD W' g L k2) : TrD s ns ks A1 c1 A2 c2 f1 f2 g L w W' k2 :=
  have hw := h.gr.size
  have h0 := h.gw
  ⟨h.K.grown hg (fun e => by injection e with e; omega), h.Z.grown hg (fun e => by injection e with e; omega),
    h.o1.grown hg (h.lt.left.mono hw) (fun hm => h.ng (List.mem_append_left _ hm)), h.o2.grown hg (h.lt.right.mono hw) (fun hm => h.ng (List.mem_append_right _ hm)), h.lt, h.ng, h.gw, hr, only_trans h.gr hg⟩
theorem TrD.low (h : TrD s ns ks A1 c1 A2 c2 f1 f2 g L w W k') {B : Nat} (hb : Below B W W') (hB : w.heap.size + 1 + 1 ≤ B) : TrD s ns ks A1 c1 A2 c2 f1 f2 g L w W' k' :=
  have h0 := h.gw
  ⟨h.K.below hb (by omega), h.Z.below hb (by omega), h.o1.below hb (h.lt.left.mono (by omega)), h.o2.below hb (h.lt.right.mono (by omega)), h.lt, h.ng, h.gw, h.rd.low hb (by omega), only_lowR h.gr hb (by omega)⟩
theorem TrD.fin (h : TrD s ns ks A1 c1 A2 c2 f1 f2 g L w W k') {t : Tree} {vs : List Value} {fq : List Nat} {k0 N M : Nat} (ho : OwC W t.cells vs fq) (hn : New W fq (w.heap.size + 1 + 1)) (hb : t.bulk ≤ N) (hk : k' ≤ k0 + M) : TDraw g L k0 N M w (.returned (.agg vs.toArray)) (putN W (w.heap.size + 1) 0 vs) := by
  have h0 := h.gw
  have hgr := setN_grown vs 0 (grown_refl W (some (w.heap.size + 1)))
  have hno : w.heap.size + 1 ∉ fq := hn.out (by omega)
  have hb2 : Below w.heap.size W (putN W (w.heap.size + 1) 0 vs) := below_of_grown hgr (by omega) h.gr.size
  exact ⟨t, vs, fq, k', rfl, ho.grown hgr hn.lt hno, (hn.grown hgr (fun b e => by injection e with e; subst e; exact hno)).mono (by omega), hb, hk, h.rd.low hb2 h0, only_lowR h.gr hb2 (Nat.le_refl _)⟩
end
theorem cell_grD {w w' : World} {g b i : Nat} {v : Value} (hg : w.grownBy w' (some g)) (h : w.cell? ⟨b, i, none⟩ = some v) (hn : b ≠ g) : w'.cell? ⟨b, i, none⟩ = some v :=
  (World.cell?_of_block (a := ⟨b, i, none⟩) (hg.block b (cell_lt h) (fun e => by injection e with e; exact hn e))).trans h
theorem cell_setD {w : World} {g i b j : Nat} {u v : Value} (h : w.cell? ⟨g, i, none⟩ = some v) (hg : g ≠ b) : (w.setCell ⟨b, j, none⟩ u).cell? ⟨g, i, none⟩ = some v := (World.cell?_of_block (a := ⟨g, i, none⟩) (Below.heap_setCell w ⟨b, j, none⟩ u g hg)).trans h
theorem cell_gbD {w w1 : World} {v v1 x : Value} {g i : Nat} (h : GB w w1 v v1) (hc : w.cell? ⟨g, i, none⟩ = some x) (hn : v.ownBlock ≠ some g) : w1.cell? ⟨g, i, none⟩ = some x := (World.cell?_of_block (a := ⟨g, i, none⟩) (h.grown.block g (cell_lt hc) hn.symm)).trans hc
theorem kid_cells {W : World} {ks : List Kind} {A2 : Option Addr} {c2 : Nat} {f2 : List Nat} (h : Ow W (.s 3 ks.length (ks.flatMap Kind.cells)) (.slice A2 ks.length c2) f2) {i : Nat} (hi : i < ks.length) :
    ∃ gk off q0 q1 q2 fi, A2 = some ⟨gk, off, none⟩ ∧ gk ∈ f2 ∧ fi ⊆ f2 ∧ W.cell? ⟨gk, off + i * 3, none⟩ = some q0 ∧ W.cell? ⟨gk, off + i * 3 + 1, none⟩ = some q1 ∧ W.cell? ⟨gk, off + i * 3 + 2, none⟩ = some q2 ∧ OwC W ks[i].cells [q0, q1, q2] fi := by
  obtain ⟨gk, off, us, fi, e, h1, h2, h3, h4, h5⟩ := h.elem Kind.cells_len hi
  obtain ⟨q0, q1, q2, rfl⟩ : ∃ a b c, us = [a, b, c] := by
    match us, h3 with
    | [a, b, c], _ => exact ⟨a, b, c, rfl⟩
  exact ⟨gk, off, q0, q1, q2, fi, e, h1, h2, h4 0 _ rfl, h4 1 _ rfl, h4 2 _ rfl, h5⟩
theorem name_cell {W : World} {ns : List ByteArray} {A1 : Option Addr} {c1 : Nat} {f1 : List Nat} (h : Ow W (.s 1 ns.length (ns.flatMap strC)) (.slice A1 ns.length c1) f1) {i : Nat} (hi : i < ns.length) :
    ∃ gk off, A1 = some ⟨gk, off, none⟩ ∧ gk ∈ f1 ∧ W.cell? ⟨gk, off + i, none⟩ = some (.string ns[i]) ∧ ns[i].size ≤ maxLen := by
  obtain ⟨gk, off, us, fi, e, h1, h2, h3, h4, h5⟩ := h.elem strC_len hi
  obtain ⟨q, rfl⟩ : ∃ a, us = [a] := by
    match us, h3 with
    | [a], _ => exact ⟨a, rfl⟩
  obtain ⟨_, _, ⟨rfl, h6, rfl⟩, _, _⟩ := h5
  exact ⟨gk, off, e, h1, by have h := h4 0 _ rfl; rw [Nat.mul_one] at h; exact h, h6⟩
set_option maxRecDepth 100000 in
set_option maxHeartbeats 4000000 in
theorem dTree_of (s : Int) (ns : List ByteArray) (ks : List Kind) (ih : ∀ y ∈ ks, DTree y) : DTree (.mk s ns ks) := by
  intro us fp L k g lv w ho hf hgood hng hr hk htn
  obtain ⟨A1, c1, A2, c2, f1, f2, rfl, w0, o1, o2, rfl⟩ := ho.oKind
  simp only [Kind.sort, Kind.names, Kind.kids] at w0 o1 o2 ⊢
  have hsh : (Kind.mk s ns ks).shape := ((Kind.good_iff _ lv).1 hgood).2.1
  have hgk : Kind.goodS ks (lv + 1) := ((Kind.good_iff _ lv).1 hgood).2.2
  unfold Kind.shape at hsh
  simp only [Kind.sort, Kind.names, Kind.kids] at hsh
  have hgw := hr.lt
  have htn2 := Kind.tn_eq (.mk s ns ks)
  have htp2 := Kind.tp_eq (.mk s ns ks)
  simp only [Kind.names, Kind.kids] at htn2 htp2
  obtain ⟨N, hN⟩ : ∃ N, (Kind.mk s ns ks).tn = N := ⟨_, rfl⟩
  obtain ⟨M, hM⟩ : ∃ M, (Kind.mk s ns ks).tp = M := ⟨_, rfl⟩
  rw [hN] at htn htn2 ⊢
  rw [hM] at hk htp2 ⊢
  have HTN := hide htn2
  have HTP := hide htp2
  have HGK := hide hgk
  have HIH := hide ih
  have HSH := hide hsh
  have O1 := hide o1
  have O2 := hide o2
  have HR := hide hr
  have HF := hide hf
  have HNG := hide hng
  clear hN hM htn2 htp2 hgk ih hsh ho o1 o2 hr hgood hf hng
  go_enter Tryz.func54, Tryz.ntmps54
  go_upto_region 2 with fail
  generalize hw1 : World.alloc _ _ = w1
  have hbA : Below w.heap.size w w1 := by rw [← hw1]; exact (((Below.refl _ _).alloc (Nat.le_refl _) _).alloc (by simp) _).alloc (by simp; omega) _
  have HT := hide (show Row w1 (w.heap.size + 1 + 1) 26 (treeMkR s (.slice none 0 0) (.slice none 0 0)) from by
    rw [← hw1]
    have h := Row.new ((w.alloc (.cells #[.int .i64 s, .slice A1 ns.length c1, .slice A2 ks.length c2] 38)).alloc (.cells [.int .i64 0, .int .i64 0, .string .empty, .slice none 0 0, .slice none 0 0].toArray 26)) 26 (treeMkR s (.slice none 0 0) (.slice none 0 0))
    rw [World.size_alloc, World.size_alloc] at h
    exact h)
  have HD := hide (show TrD s ns ks A1 c1 A2 c2 f1 f2 g L w w1 k from
    ⟨by rw [← hw1]; exact ((Row.new w _ _).alloc _).alloc _, by
      rw [← hw1]
      have h := (Row.new (w.alloc (.cells #[.int .i64 s, .slice A1 ns.length c1, .slice A2 ks.length c2] 38)) 26 [.int .i64 0, .int .i64 0, .string .empty, .slice none 0 0, .slice none 0 0]).alloc (.cells (treeMkR s (.slice none 0 0) (.slice none 0 0)).toArray 26)
      rw [World.size_alloc] at h
      exact h, O1.out.below hbA HF.out.left, O2.out.below hbA HF.out.right, HF.out, HNG.out, hgw, HR.out.below hbA, grownBy_below hbA (some g)⟩)
  have hs1 : w.heap.size + 1 + 1 < w1.heap.size := HT.out.lt
  clear hw1 hbA O1 O2 HR
  have k0 := HD.out.K.cell 0
  have k1 := HD.out.K.cell 1
  have k2 := HD.out.K.cell 2
  have kl := HD.out.K.lt
  have hgn1 : g ≠ w.heap.size := by omega
  have hcs : s = 1 ∨ s = 2 ∨ s = 3 ∨ (s = 6 ∧ ks.length = 1) ∨ (s = 4 ∧ ks.length = 1) ∨ (s = 5 ∧ ns.length = ks.length) := by
    rcases HSH.out with ⟨h1, h2, h3⟩ | ⟨h1, h2, h3⟩ | ⟨h1, h2, h3⟩
    · rcases h1 with h | h | h <;> simp [h]
    · rcases h1 with h | h
      · exact .inr (.inr (.inr (.inr (.inl ⟨h, h3⟩))))
      · exact .inr (.inr (.inr (.inl ⟨h, h3⟩)))
    · exact .inr (.inr (.inr (.inr (.inr ⟨h1, h3⟩))))
  rcases hcs with rfl | rfl | rfl | ⟨rfl, hk1⟩ | ⟨rfl, hk1⟩ | ⟨rfl, hk1⟩
  · skip
    have HC := hide (l5Num_any HD.out.rd (by omega))
    go_wp2_with fail
    refine HC.out.mono ?_
    rintro e w5 ⟨n, kx, rfl, hn0, hn1, hk5, h5, hg5⟩
    have HD5 := hide (HD.out.tick hg5 h5)
    have HT5 := hide (HT.out.grown hg5 (fun e => by injection e with e; omega))
    have HTX := hide (HT5.out.set 1 (.int .i64 n))
    have hBX : Below (w.heap.size + 1 + 1) w5 (w5.setCell ⟨w.heap.size + 1 + 1, 1, none⟩ (.int .i64 n)) := (Below.refl _ _).setCell (p := ⟨w.heap.size + 1 + 1, 1, none⟩) (Nat.le_refl _) _
    have HDX := hide (HD5.out.low hBX (Nat.le_refl _))
    clear h5 hg5 HC HD k0 k1 k2 kl hBX
    have x1f := HT5.out.frozen 1
    have p0 := HT5.out.cell 0
    have p1 := HT5.out.cell 1
    have p2 := HT5.out.cell 2
    have p3 := HT5.out.cell 3
    have p4 := HT5.out.cell 4
    have q0 := HTX.out.cell 0
    have q1 := HTX.out.cell 1
    have q2 := HTX.out.cell 2
    have q3 := HTX.out.cell 3
    have q4 := HTX.out.cell 4
    have z0 := HDX.out.Z.cell 0
    have zf0 := HDX.out.Z.frozen 0
    have z1 := HDX.out.Z.cell 1
    have zf1 := HDX.out.Z.frozen 1
    have z2 := HDX.out.Z.cell 2
    have zf2 := HDX.out.Z.frozen 2
    have z3 := HDX.out.Z.cell 3
    have zf3 := HDX.out.Z.frozen 3
    have z4 := HDX.out.Z.cell 4
    have zf4 := HDX.out.Z.frozen 4
    have lq := HTX.out.lt
    have lq5 := HT5.out.lt
    have lz := HDX.out.Z.lt
    go_wp2
    refine bodyPost_ret (ret_row rfl _ _ (w.heap.size + 1) 26 [.int .i64 1, .int .i64 n, .string .empty, .slice none 0 0, .slice none 0 0] (HDX.out.Z.setAll [.int .i64 1, .int .i64 n, .string .empty, .slice none 0 0, .slice none 0 0] rfl) _ rfl Tryz.underlying26 rfl (by kernel_rfl)) rfl ?_
    exact HDX.out.fin (t := .mk 1 (n) .empty [] []) (tleaf_ow _ (by decide) (wfiR (by omega) (by omega)) (by decide)) (New.nil _ _) (by rw [Tree.bulk_leaf]; exact Nat.zero_le _) (by have := HTP.out; omega)
  · skip
    have HC := hide (l5Text_any HD.out.rd (by omega))
    go_wp2_with fail
    refine HC.out.mono ?_
    rintro e w5 ⟨x, kx, rfl, hx, hk5, h5, hg5⟩
    have HD5 := hide (HD.out.tick hg5 h5)
    have HT5 := hide (HT.out.grown hg5 (fun e => by injection e with e; omega))
    have HTX := hide (HT5.out.set 2 (.string x))
    have hBX : Below (w.heap.size + 1 + 1) w5 (w5.setCell ⟨w.heap.size + 1 + 1, 2, none⟩ (.string x)) := (Below.refl _ _).setCell (p := ⟨w.heap.size + 1 + 1, 2, none⟩) (Nat.le_refl _) _
    have HDX := hide (HD5.out.low hBX (Nat.le_refl _))
    clear h5 hg5 HC HD k0 k1 k2 kl hBX
    have x2f := HT5.out.frozen 2
    have p0 := HT5.out.cell 0
    have p1 := HT5.out.cell 1
    have p2 := HT5.out.cell 2
    have p3 := HT5.out.cell 3
    have p4 := HT5.out.cell 4
    have q0 := HTX.out.cell 0
    have q1 := HTX.out.cell 1
    have q2 := HTX.out.cell 2
    have q3 := HTX.out.cell 3
    have q4 := HTX.out.cell 4
    have z0 := HDX.out.Z.cell 0
    have zf0 := HDX.out.Z.frozen 0
    have z1 := HDX.out.Z.cell 1
    have zf1 := HDX.out.Z.frozen 1
    have z2 := HDX.out.Z.cell 2
    have zf2 := HDX.out.Z.frozen 2
    have z3 := HDX.out.Z.cell 3
    have zf3 := HDX.out.Z.frozen 3
    have z4 := HDX.out.Z.cell 4
    have zf4 := HDX.out.Z.frozen 4
    have lq := HTX.out.lt
    have lq5 := HT5.out.lt
    have lz := HDX.out.Z.lt
    go_wp2
    refine bodyPost_ret (ret_row rfl _ _ (w.heap.size + 1) 26 [.int .i64 2, .int .i64 0, .string x, .slice none 0 0, .slice none 0 0] (HDX.out.Z.setAll [.int .i64 2, .int .i64 0, .string x, .slice none 0 0, .slice none 0 0] rfl) _ rfl Tryz.underlying26 rfl (by kernel_rfl)) rfl ?_
    exact HDX.out.fin (t := .mk 2 (0) x [] []) (tleaf_ow _ (by decide) (by decide) (by unfold maxLen; omega)) (New.nil _ _) (by rw [Tree.bulk_text]; have := HTN.out; omega) (by have := HTP.out; omega)
  · skip
    have HC := hide (pick_any HD.out.rd (n := 2) (by omega) (by omega) (by omega))
    go_wp2_with fail
    refine HC.out.mono ?_
    rintro e w5 ⟨r, rfl, hr2, h5, hg5⟩
    have HD5 := hide (HD.out.tick hg5 h5)
    have HT5 := hide (HT.out.grown hg5 (fun e => by injection e with e; omega))
    have HTX := hide (HT5.out.set 1 (.int .i64 (r : Int)))
    have hBX : Below (w.heap.size + 1 + 1) w5 (w5.setCell ⟨w.heap.size + 1 + 1, 1, none⟩ (.int .i64 (r : Int))) := (Below.refl _ _).setCell (p := ⟨w.heap.size + 1 + 1, 1, none⟩) (Nat.le_refl _) _
    have HDX := hide (HD5.out.low hBX (Nat.le_refl _))
    clear h5 hg5 HC HD k0 k1 k2 kl hBX
    have x1f := HT5.out.frozen 1
    have p0 := HT5.out.cell 0
    have p1 := HT5.out.cell 1
    have p2 := HT5.out.cell 2
    have p3 := HT5.out.cell 3
    have p4 := HT5.out.cell 4
    have q0 := HTX.out.cell 0
    have q1 := HTX.out.cell 1
    have q2 := HTX.out.cell 2
    have q3 := HTX.out.cell 3
    have q4 := HTX.out.cell 4
    have z0 := HDX.out.Z.cell 0
    have zf0 := HDX.out.Z.frozen 0
    have z1 := HDX.out.Z.cell 1
    have zf1 := HDX.out.Z.frozen 1
    have z2 := HDX.out.Z.cell 2
    have zf2 := HDX.out.Z.frozen 2
    have z3 := HDX.out.Z.cell 3
    have zf3 := HDX.out.Z.frozen 3
    have z4 := HDX.out.Z.cell 4
    have zf4 := HDX.out.Z.frozen 4
    have lq := HTX.out.lt
    have lq5 := HT5.out.lt
    have lz := HDX.out.Z.lt
    go_wp2
    refine bodyPost_ret (ret_row rfl _ _ (w.heap.size + 1) 26 [.int .i64 3, .int .i64 (r : Int), .string .empty, .slice none 0 0, .slice none 0 0] (HDX.out.Z.setAll [.int .i64 3, .int .i64 (r : Int), .string .empty, .slice none 0 0, .slice none 0 0] rfl) _ rfl Tryz.underlying26 rfl (by kernel_rfl)) rfl ?_
    exact HDX.out.fin (t := .mk 3 ((r : Int)) .empty [] []) (tleaf_ow _ (by decide) (wfiR (by omega) (by omega)) (by decide)) (New.nil _ _) (by rw [Tree.bulk_leaf]; exact Nat.zero_le _) (by have := HTP.out; omega)
  · have HC := hide (pick_any HD.out.rd (n := 3) (by omega) (by omega) (by omega))
    go_wp2_with fail
    refine HC.out.mono ?_
    rintro e w5 ⟨r, rfl, hr3, h5, hg5⟩
    have HD5 := hide (HD.out.tick hg5 h5)
    have HT5 := hide (HT.out.grown hg5 (fun e => by injection e with e; omega))
    clear h5 hg5 HC HD HT k0 k1 k2 kl
    by_cases h0 : r = 0
    · subst h0
      have q0 := HT5.out.cell 0
      have q1 := HT5.out.cell 1
      have q2 := HT5.out.cell 2
      have q3 := HT5.out.cell 3
      have q4 := HT5.out.cell 4
      have z0 := HD5.out.Z.cell 0
      have zf0 := HD5.out.Z.frozen 0
      have z1 := HD5.out.Z.cell 1
      have zf1 := HD5.out.Z.frozen 1
      have z2 := HD5.out.Z.cell 2
      have zf2 := HD5.out.Z.frozen 2
      have z3 := HD5.out.Z.cell 3
      have zf3 := HD5.out.Z.frozen 3
      have z4 := HD5.out.Z.cell 4
      have zf4 := HD5.out.Z.frozen 4
      have lq := HT5.out.lt
      have lz := HD5.out.Z.lt
      go_wp2
      refine bodyPost_ret (ret_row rfl _ _ (w.heap.size + 1) 26 (treeMkR 6 (.slice none 0 0) (.slice none 0 0)) (HD5.out.Z.setAll (treeMkR 6 (.slice none 0 0) (.slice none 0 0)) rfl) _ rfl Tryz.underlying26 rfl (by kernel_rfl)) rfl ?_
      exact HD5.out.fin (t := .mk 6 0 .empty [] []) (tleaf_ow _ (by decide) (by decide) (by decide)) (New.nil _ _) (by rw [Tree.bulk_leaf]; exact Nat.zero_le _) (by have := HTP.out; omega)
    · have hr0 : (0 : Int) < (r : Int) := by omega
      have hlk : 0 < ks.length := by omega
      obtain ⟨gk, off, q0, q1, q2, fi, rfl, hgm, hfs, p0, p1, p2, hoy⟩ := kid_cells HD5.out.o2 hlk
      simp only [Nat.zero_mul, Nat.add_zero] at p0 p1 p2
      have pl := cell_lt p0
      have hmem : ks[0] ∈ ks := List.getElem_mem hlk
      have HTA := hide (show ks[0].tn + Kind.tnS (ks.drop 1) = Kind.tnS ks ∧ ks[0].tp + Kind.tpS (ks.drop 1) = Kind.tpS ks from by
        match ks, hlk with
        | y :: r, _ => exact ⟨rfl, rfl⟩)
      have HKC := hide (HIH.out ks[0] hmem [q0, q1, q2] fi L (k + 1) g (lv + 1) w5 hoy (fun b hb => Nat.lt_of_lt_of_le (HD5.out.lt.right b (hfs hb)) HD5.out.gr.size) (Kind.goodS_at HGK.out hlk) (fun hm => HD5.out.ng (List.mem_append_right _ (hfs hm))) HD5.out.rd (by have := HTP.out; have := HTA.out; omega) (by have := HTN.out; have := HTA.out; omega))
      have k2 := HD5.out.K.cell 2
      have kl := HD5.out.K.lt
      clear hoy hfs
      generalize ks[0] = y at *
      rw [hk1] at k2
      go_wp2_with fail
      refine HKC.out.mono ?_
      rintro e w6 ⟨t, us6, fq6, k6, rfl, ho6, hn6, hb6, hk6, hr6, hg6⟩
      obtain ⟨E1, e1, E2, e2, g1, g2, rfl, x0, x1, x2, x3, x4, efq⟩ := ho6.oTree
      have HD6 := hide (HD5.out.tick hg6 hr6)
      have HT6 := hide (HT5.out.grown hg6 (fun e => by injection e with e; omega))
      have HO6 := hide ho6
      have HN6 := hide (hn6.mono (show w.heap.size + 1 + 1 + 1 ≤ w5.heap.size from HT5.out.lt))
      have HK6 := hide hk6
      clear ho6 hn6 hr6 hg6 x3 x4 efq HKC k2 kl p0 p1 p2 pl
      have t4 := HT6.out.cell 4
      have t4f := HT6.out.frozen 4
      have tl := HT6.out.lt
      go_upto_region 23 with fail
      generalize hw7 : World.alloc _ _ = w7
      have hsz6 : (w6.setCell ⟨w.heap.size + 1 + 1, 4, none⟩ (.slice (some ⟨w6.heap.size, 0, none⟩) 1 1)).heap.size = w6.heap.size := by simp
      have hbA : Below (w.heap.size + 1 + 1) w6 w7 := by rw [← hw7]; exact ((Below.refl _ _).setCell (p := ⟨w.heap.size + 1 + 1, 4, none⟩) (Nat.le_refl _) _).alloc (by rw [hsz6]; exact Nat.le_of_lt tl) _
      have HRow := hide (show Row w7 w6.heap.size 26 [.int .i64 t.sort, .int .i64 t.num, .string t.text, .slice E1 t.names.length e1, .slice E2 t.kids.length e2] from by
        rw [← hw7]
        have h := Row.new (w6.setCell ⟨w.heap.size + 1 + 1, 4, none⟩ (.slice (some ⟨w6.heap.size, 0, none⟩) 1 1)) 26 [.int .i64 t.sort, .int .i64 t.num, .string t.text, .slice E1 t.names.length e1, .slice E2 t.kids.length e2]
        rw [hsz6] at h
        exact h)
      have HT7 := hide (show Row w7 (w.heap.size + 1 + 1) 26 (treeMkR 6 (.slice none 0 0) (.slice (some ⟨w6.heap.size, 0, none⟩) 1 1)) from by rw [← hw7]; exact (HT6.out.set 4 _).alloc _)
      have hnb6 : w.heap.size + 1 + 1 ∉ fq6 := HN6.out.out (Nat.lt_succ_self _)
      have hw6b : w.heap.size + 1 + 1 < w6.heap.size := tl
      have HO7 := hide (show OwC w7 t.cells [.int .i64 t.sort, .int .i64 t.num, .string t.text, .slice E1 t.names.length e1, .slice E2 t.kids.length e2] fq6 from by rw [← hw7]; exact (HO6.out.setCell (a := ⟨w.heap.size + 1 + 1, 4, none⟩) hnb6 _).alloc (by rw [hsz6]; exact HN6.out.lt) _)
      have HN7 := hide (show New w7 fq6 (w.heap.size + 1 + 1 + 1) from by rw [← hw7]; exact (HN6.out.setCell _ _).alloc _)
      have HD7 := hide (HD6.out.low hbA (Nat.le_refl _))
      clear hw7 hbA hsz6 hnb6 t4 t4f tl HT6 HD6
      have q0 := HT7.out.cell 0
      have q1 := HT7.out.cell 1
      have q2 := HT7.out.cell 2
      have q3 := HT7.out.cell 3
      have q4 := HT7.out.cell 4
      have z0 := HD7.out.Z.cell 0
      have zf0 := HD7.out.Z.frozen 0
      have z1 := HD7.out.Z.cell 1
      have zf1 := HD7.out.Z.frozen 1
      have z2 := HD7.out.Z.cell 2
      have zf2 := HD7.out.Z.frozen 2
      have z3 := HD7.out.Z.cell 3
      have zf3 := HD7.out.Z.frozen 3
      have z4 := HD7.out.Z.cell 4
      have zf4 := HD7.out.Z.frozen 4
      have lq := HT7.out.lt
      have lz := HD7.out.Z.lt
      go_wp2
      refine bodyPost_ret (ret_row rfl _ _ (w.heap.size + 1) 26 (treeMkR 6 (.slice none 0 0) (.slice (some ⟨w6.heap.size, 0, none⟩) 1 1)) (HD7.out.Z.setAll (treeMkR 6 (.slice none 0 0) (.slice (some ⟨w6.heap.size, 0, none⟩) 1 1)) rfl) _ rfl Tryz.underlying26 rfl (by kernel_rfl)) rfl ?_
      exact HD7.out.fin (t := .mk 6 0 .empty [] [t]) (tone_ow (by decide) HO7.out w6.heap.size HRow.out) ((HN7.out.mono (Nat.le_succ _)).consHiR (fun hm => Nat.lt_irrefl _ (HN6.out.lt _ hm)) (Nat.le_of_lt hw6b) (Unf.row HRow.out) HRow.out.lt) (by rw [Tree.bulk_one]; have := HTN.out; have := HTA.out; omega) (by have := HTP.out; have := HTA.out; have := HK6.out; omega)
  · have HC := hide (pick_any HD.out.rd (n := 4) (by omega) (by omega) (by omega))
    obtain ⟨ia, hia, ha0, ha1, ha2⟩ := info_parts info_strR
    obtain ⟨ib, hib, hb0, hb1, hb2⟩ := info_parts info_TreeR
    have HIa := hide hia
    have HIb := hide hib
    clear hia hib
    go_wp2_with fail
    refine HC.out.mono ?_
    rintro e w5 ⟨n0, rfl, hn4, h5, hg5⟩
    have HD5 := hide (HD.out.tick hg5 h5)
    have HT5 := hide (show TreeAtR w5 (w.heap.size + 1 + 1) 4 (.slice none 0 0) [] [] (.slice none 0 0) [] [] [] from ⟨HT.out.grown hg5 (fun e => by injection e with e; omega), OwS.nil _ _ _ _ _, OwS.nil _ _ _ _ _, Nat.lt_succ_self _, fun g h => (by cases h), fun g h => (by cases h), fun g h => (by cases h), fun g h => (by cases h)⟩)
    have hlk : 0 < ks.length := by omega
    have HTA := hide (show ks[0].tn ≤ Kind.tnS ks ∧ ks[0].tp ≤ Kind.tpS ks from by
      match ks, hlk with
      | y :: r, _ => exact ⟨Nat.le_add_right _ _, Nat.le_add_right _ _⟩)
    obtain ⟨TN, hTN⟩ : ∃ TN, Kind.tnS ks = TN := ⟨_, rfl⟩
    obtain ⟨TP, hTP⟩ : ∃ TP, Kind.tpS ks = TP := ⟨_, rfl⟩
    rw [hTN] at HTN HTA
    rw [hTP] at HTP HTA
    clear h5 hg5 HC HD HT k0 k1 k2 kl hTN hTP
    go_wp2_with fail
    go_loopw [6] (fun iv wr => ∃ (n : Nat) (ts : List Tree) (B2 : Option Addr) (n2 d2 : Nat) (us2 : List Value) (fi2 : List Nat) (kx : Nat), iv = .int .i64 (n : Int) ∧ TreeAtR wr (w.heap.size + 1 + 1) 4 (.slice none 0 0) [] [] (.slice B2 n2 d2) ts us2 fi2 ∧ TrD 4 ns ks A1 c1 A2 c2 f1 f2 g L w wr kx ∧ ts.length + n ≤ 3 ∧ Tree.bulkS ts ≤ ts.length * TN ∧ kx ≤ k + 1 + ts.length * TP) (fun iv _ => (intOf iv).toNat)
    case atStart => exact ⟨n0, [], none, 0, 0, [], [], k + 1, rfl, HT5.out, HD5.out, by simp; omega, Nat.zero_le _, Nat.le_add_right _ _⟩
    case round =>
      obtain ⟨n, ts, B2, n2, d2, us2, fi2, kx, rfl, hT, hD, hln, hbk, hkx⟩ := hrel
      have HTr := hide hT
      have HDr := hide hD
      have HBK := hide hbk
      have HKX := hide hkx
      clear hT hD hbk hkx HD5 HT5
      rcases n with _ | n
      · have HTX := hide HTr.out.box
        have hm := Nat.mul_le_mul_right TN (show ts.length ≤ 3 by omega)
        have hm2 := Nat.mul_le_mul_right TP (show ts.length ≤ 3 by omega)
        have q0 := HTX.out.cell 0
        have q1 := HTX.out.cell 1
        have q2 := HTX.out.cell 2
        have q3 := HTX.out.cell 3
        have q4 := HTX.out.cell 4
        have z0 := HDr.out.Z.cell 0
        have zf0 := HDr.out.Z.frozen 0
        have z1 := HDr.out.Z.cell 1
        have zf1 := HDr.out.Z.frozen 1
        have z2 := HDr.out.Z.cell 2
        have zf2 := HDr.out.Z.frozen 2
        have z3 := HDr.out.Z.cell 3
        have zf3 := HDr.out.Z.frozen 3
        have z4 := HDr.out.Z.cell 4
        have zf4 := HDr.out.Z.frozen 4
        have lq := HTX.out.lt
        have lz := HDr.out.Z.lt
        go_wp2
        refine bodyPost_ret (ret_row rfl _ _ (w.heap.size + 1) 26 (treeMkR 4 (.slice none 0 0) (.slice B2 n2 d2)) (HDr.out.Z.setAll (treeMkR 4 (.slice none 0 0) (.slice B2 n2 d2)) rfl) _ rfl Tryz.underlying26 rfl (by kernel_rfl)) rfl ?_
        obtain ⟨fq, ho, hnw⟩ := tform_ow HTr.out (by decide)
        exact HDr.out.fin (t := .mk 4 0 .empty [] ts) ho (hnw.mono (Nat.le_succ _)) (by rw [Tree.bulk_mk]; simp only [bulkStrs, bulkStr, List.length_nil, ByteArray.size_empty]; have := HTN.out; have := HBK.out; omega) (by have := HTP.out; have := HKX.out; omega)
      · have hn0 : (0 : Int) < ((n + 1 : Nat) : Int) := by omega
        have hts : ts.length ≤ 2 := by omega
        have hm := Nat.mul_le_mul_right TN hts
        have hm2 := Nat.mul_le_mul_right TP hts
        obtain ⟨gk, off, q0, q1, q2, fi, rfl, hgm, hfs, p0, p1, p2, hoy⟩ := kid_cells HDr.out.o2 hlk
        simp only [Nat.zero_mul, Nat.add_zero] at p0 p1 p2
        have hmem : ks[0] ∈ ks := List.getElem_mem hlk
        have hgd : ks[0].good (lv + 1) := Kind.goodS_at HGK.out hlk
        have HOY := hide (show OwC wr.drew ks[0].cells [q0, q1, q2] fi from hoy.below (below_drewN (Below.refl wr.heap.size wr) 1) (fun b hb => Nat.lt_of_lt_of_le (HDr.out.lt.right b (hfs hb)) HDr.out.gr.size))
        have hgk := HDr.out.lt.right gk hgm
        have hgkg : gk ≠ g := fun e => HDr.out.ng (List.mem_append_right _ (e ▸ hgm))
        have HKC := hide (fun (W : World) (hO : OwC W ks[0].cells [q0, q1, q2] fi) (hs : w.heap.size ≤ W.heap.size) (hr : RdD W g L kx) => show Calls Tryz.prog 54 #[.pointer (some ⟨g, 0, none⟩), .agg #[q0, q1, q2]] W (TDraw g L kx ks[0].tn ks[0].tp W) from
          HIH.out ks[0] hmem [q0, q1, q2] fi L kx g (lv + 1) W hO (fun b hb => Nat.lt_of_lt_of_le (HDr.out.lt.right b (hfs hb)) hs) hgd (fun hm => HDr.out.ng (List.mem_append_right _ (hfs hm))) hr (by have := HTP.out; have := HTA.out; have := HKX.out; omega) (by have := HTN.out; have := HTA.out; omega))
        have k2 := HDr.out.K.cell 2
        have kl := HDr.out.K.lt
        rw [hk1] at k2
        clear hoy hfs hgm hmem hgd
        generalize ks[0] = y at *
        have hq0 : Below wr.heap.size wr wr.drew := below_drewN (Below.refl _ _) 1
        have HDa := hide (HDr.out.low hq0 (by have := HTr.out.box.lt; omega))
        have HTa := hide (show TreeAtR wr.drew (w.heap.size + 1 + 1) _ (.slice none 0 0) [] [] (.slice B2 n2 d2) ts us2 fi2 from HTr.out.drewN 1)
        have hS0 : wr.drew.cell? ⟨w.heap.size, 2, none⟩ = some (.slice (some ⟨gk, off, none⟩) 1 c2) ∧ wr.drew.cell? ⟨gk, off, none⟩ = some q0 ∧ wr.drew.cell? ⟨gk, off + 1, none⟩ = some q1 ∧ wr.drew.cell? ⟨gk, off + 2, none⟩ = some q2 := ⟨(hq0.cell (cell_lt k2)).trans k2, (hq0.cell (cell_lt p0)).trans p0, (hq0.cell (cell_lt p1)).trans p1, (hq0.cell (cell_lt p2)).trans p2⟩
        go_wp2_with fail
        refine wp_region_held_drew (S := fun W => W.cell? ⟨w.heap.size, 2, none⟩ = some (.slice (some ⟨gk, off, none⟩) 1 c2) ∧ W.cell? ⟨gk, off, none⟩ = some q0 ∧ W.cell? ⟨gk, off + 1, none⟩ = some q1 ∧ W.cell? ⟨gk, off + 2, none⟩ = some q2) (by kernel_rfl) hS0 (fun _ => ?_)
        clear hq0
        generalize wr.drew = w6 at *
        refine wpAnyH_take (i := 0) (v := .pointer (some ⟨w.heap.size + 1 + 1, 4, none⟩)) rfl (by kernel_rfl) (by kernel_rfl) (by kernel_rfl) (fun _ _ _ h => h) (Or.inl ⟨by kernel_rfl, by (intro W hS; go_simp; first | done | with_reducible rfl | rfl)⟩) hS0 ?_
        (try simp only [Act.put, List.getElem_toArray, List.getElem_cons_zero, List.getElem_cons_succ, List.setIfInBounds_toArray, List.set_cons_zero, List.set_cons_succ])
        refine wpAnyH_take (i := 2) (v := .pointer (some ⟨g, 0, none⟩)) rfl (by kernel_rfl) (by kernel_rfl) (by kernel_rfl) (fun _ _ _ h => h) (Or.inl ⟨by kernel_rfl, by (intro W hS; go_simp; first | done | with_reducible rfl | rfl)⟩) hS0 ?_
        (try simp only [Act.put, List.getElem_toArray, List.getElem_cons_zero, List.getElem_cons_succ, List.setIfInBounds_toArray, List.set_cons_zero, List.set_cons_succ])
        refine wpAnyH_take (i := 3) (v := .pointer (some ⟨w.heap.size, 2, none⟩)) rfl (by kernel_rfl) (by kernel_rfl) (by kernel_rfl) (fun _ _ _ h => h) (Or.inl ⟨by kernel_rfl, by (intro W hS; go_simp; first | done | with_reducible rfl | rfl)⟩) hS0 ?_
        (try simp only [Act.put, List.getElem_toArray, List.getElem_cons_zero, List.getElem_cons_succ, List.setIfInBounds_toArray, List.set_cons_zero, List.set_cons_succ])
        refine wpAnyH_take (i := 4) (v := .slice (some ⟨gk, off, none⟩) 1 c2) rfl (by kernel_rfl) (by kernel_rfl) (by kernel_rfl) (fun _ _ _ h => h) (Or.inl ⟨by kernel_rfl, by (intro W hS; have y := hS.1; have yl := cell_lt y; go_simp; first | done | with_reducible rfl | rfl)⟩) hS0 ?_
        (try simp only [Act.put, List.getElem_toArray, List.getElem_cons_zero, List.getElem_cons_succ, List.setIfInBounds_toArray, List.set_cons_zero, List.set_cons_succ])
        refine wpAnyH_take (i := 5) (v := .pointer (some ⟨gk, off, none⟩)) rfl (by kernel_rfl) (by kernel_rfl) (by kernel_rfl) (fun _ _ _ h => h) (Or.inl ⟨by kernel_rfl, by (intro W hS; go_simp; first | done | with_reducible rfl | rfl)⟩) hS0 ?_
        (try simp only [Act.put, List.getElem_toArray, List.getElem_cons_zero, List.getElem_cons_succ, List.setIfInBounds_toArray, List.set_cons_zero, List.set_cons_succ])
        refine wpAnyH_take (i := 6) (v := .agg #[q0, q1, q2]) rfl (by kernel_rfl) (by kernel_rfl) (by kernel_rfl) (fun _ _ _ h => h) (Or.inl ⟨by kernel_rfl, by (intro W hS; have y := hS.2.1; have yl := cell_lt y; have y1 := hS.2.2.1; have y2 := hS.2.2.2; go_simp; first | done | with_reducible rfl | rfl)⟩) hS0 ?_
        (try simp only [Act.put, List.getElem_toArray, List.getElem_cons_zero, List.getElem_cons_succ, List.setIfInBounds_toArray, List.set_cons_zero, List.set_cons_succ])
        have x0 := HTa.out.box.cell 4
        have xl := HTa.out.box.lt
        refine wpAnyH_ready (rs := [1, 7]) (by kernel_rfl) (by simp) ?_
        refine AllReadyH.cons rfl (fun K hK => ?_) ?_
        · skip
          go_simp
          refine hK.out _ _ hS0 (fun hHeld => ?_)
          clear hK K hHeld
          refine wpAnyH_ready (rs := [7]) (by kernel_rfl) (by simp) ?_
          refine AllReadyH.cons rfl (fun K hK => ?_) AllReadyH.nil
          go_simp
          go_at_call 54
          refine (HKC.out w6 HOY.out HDa.out.gr.size HDa.out.rd).mono ?_
          rintro e w7 ⟨t, us7, fq7, k7, rfl, ho7, hn7, hb7, hk7, hr7, hg7⟩
          obtain ⟨E1, e1, E2, e2, g1, g2, rfl, x0_, x1_, x2_, x3_, x4_, efq⟩ := ho7.oTree
          have hS1 : w7.cell? ⟨w.heap.size, 2, none⟩ = some (.slice (some ⟨gk, off, none⟩) 1 c2) ∧ w7.cell? ⟨gk, off, none⟩ = some q0 ∧ w7.cell? ⟨gk, off + 1, none⟩ = some q1 ∧ w7.cell? ⟨gk, off + 2, none⟩ = some q2 := ⟨cell_grD hg7 (hS0.1) (by omega), cell_grD hg7 (hS0.2.1) hgkg, cell_grD hg7 (hS0.2.2.1) hgkg, cell_grD hg7 (hS0.2.2.2) hgkg⟩
          have HDb := hide (HDa.out.tick hg7 hr7)
          have HTb := hide (HTa.out.farR hg7 (by omega))
          have HO7 := hide ho7
          have HN7 := hide (hn7.mono (show w.heap.size + 1 + 1 + 1 ≤ w6.heap.size from HTa.out.box.lt))
          have HN7w := hide hn7.lt
          have HN7r := hide hn7
          have HN7f := hide hn7.fr
          have HLT7 := hide (show w6.heap.size ≤ w7.heap.size from hg7.size)
          have y0 := HTb.out.box.cell 4
          have yl := HTb.out.box.lt
          clear ho7 hn7 hr7 x3_ x4_ efq
          try go_simp
          refine hK.out _ _ hS1 (fun hHeld => ?_)
          clear hK K hHeld hg7
          refine wpAnyH_ready (rs := [8]) (by kernel_rfl) (by simp) ?_
          refine AllReadyH.cons rfl (fun K hK => ?_) AllReadyH.nil
          have hq1 : Below w7.heap.size w7 (w7.alloc (.cells #[.int .i64 t.sort, .int .i64 t.num, .string t.text, .slice E1 t.names.length e1, .slice E2 t.kids.length e2] 26)) := (Below.refl _ _).alloc (Nat.le_refl _) _
          have hS2 : (w7.alloc (.cells #[.int .i64 t.sort, .int .i64 t.num, .string t.text, .slice E1 t.names.length e1, .slice E2 t.kids.length e2] 26)).cell? ⟨w.heap.size, 2, none⟩ = some (.slice (some ⟨gk, off, none⟩) 1 c2) ∧ (w7.alloc (.cells #[.int .i64 t.sort, .int .i64 t.num, .string t.text, .slice E1 t.names.length e1, .slice E2 t.kids.length e2] 26)).cell? ⟨gk, off, none⟩ = some q0 ∧ (w7.alloc (.cells #[.int .i64 t.sort, .int .i64 t.num, .string t.text, .slice E1 t.names.length e1, .slice E2 t.kids.length e2] 26)).cell? ⟨gk, off + 1, none⟩ = some q1 ∧ (w7.alloc (.cells #[.int .i64 t.sort, .int .i64 t.num, .string t.text, .slice E1 t.names.length e1, .slice E2 t.kids.length e2] 26)).cell? ⟨gk, off + 2, none⟩ = some q2 := ⟨(hq1.cell (cell_lt (hS1.1))).trans (hS1.1), (hq1.cell (cell_lt (hS1.2.1))).trans (hS1.2.1), (hq1.cell (cell_lt (hS1.2.2.1))).trans (hS1.2.2.1), (hq1.cell (cell_lt (hS1.2.2.2))).trans (hS1.2.2.2)⟩
          have HTc := hide (HTb.out.alloc (.cells #[.int .i64 t.sort, .int .i64 t.num, .string t.text, .slice E1 t.names.length e1, .slice E2 t.kids.length e2] 26))
          have hszc : w.heap.size + 1 + 1 + 1 ≤ (w7.alloc (.cells #[.int .i64 t.sort, .int .i64 t.num, .string t.text, .slice E1 t.names.length e1, .slice E2 t.kids.length e2] 26)).heap.size := by have := HTb.out.box.lt; rw [World.size_alloc]; omega
          have HO7c := hide (HO7.out.alloc HN7w.out (.cells #[.int .i64 t.sort, .int .i64 t.num, .string t.text, .slice E1 t.names.length e1, .slice E2 t.kids.length e2] 26))
          have HN7c := hide (HN7.out.alloc (.cells #[.int .i64 t.sort, .int .i64 t.num, .string t.text, .slice E1 t.names.length e1, .slice E2 t.kids.length e2] 26))
          have HN7s := hide (show New (w7.alloc (.cells #[.int .i64 t.sort, .int .i64 t.num, .string t.text, .slice E1 t.names.length e1, .slice E2 t.kids.length e2] 26)) fq7 w6.heap.size from HN7r.out.alloc _)
          go_simp
          refine hK.out _ _ hS2 (fun hHeld => ?_)
          clear hK K hHeld
          refine wpAnyH_ready (rs := [9]) (by kernel_rfl) (by simp) ?_
          refine AllReadyH.cons rfl (fun K hK => ?_) AllReadyH.nil
          refine step_app (by rfl) _ _ 24 (by rfl) ib _ 80 Tryz.underlying24 HIb.out hb0 hb1 hb2 rfl (by decide) Tree.cells_len (by rfl) HTc.out.two [t] (by rw [List.flatMap_singleton]; exact HO7c.out) (New.app HTc.out.two.new HN7s.out (fun g hg => HTa.out.two.new.lt g hg) (by exact HTa.out.box.lt)) (fun g e hm => by (have k1 := HTa.out.two.lt g e); (have k2 := (HN7f.out g hm).1); exact absurd k1 (Nat.not_lt.2 k2)) _ 1 1 (by rfl) rfl (SrcAt.new w7 _ _ _ _) (by omega) (by decide) hszc ?_
          intro A8 n8 c8 w8 hn8 hown8 hgb8
          clear hn8
          have r8 := HTc.out.row2 hgb8
          have x8 := r8.cell 4
          have f8 := r8.frozen 4
          have l8 := r8.lt
          have hS3 : w8.cell? ⟨w.heap.size, 2, none⟩ = some (.slice (some ⟨gk, off, none⟩) 1 c2) ∧ w8.cell? ⟨gk, off, none⟩ = some q0 ∧ w8.cell? ⟨gk, off + 1, none⟩ = some q1 ∧ w8.cell? ⟨gk, off + 2, none⟩ = some q2 := ⟨cell_gbD hgb8 (hS2.1) (HTc.out.two.low (by omega)), cell_gbD hgb8 (hS2.2.1) (HTc.out.two.low (by omega)), cell_gbD hgb8 (hS2.2.2.1) (HTc.out.two.low (by omega)), cell_gbD hgb8 (hS2.2.2.2) (HTc.out.two.low (by omega))⟩
          have hS4 : (w8.setCell ⟨w.heap.size + 1 + 1, 4, none⟩ (.slice A8 n8 c8)).cell? ⟨w.heap.size, 2, none⟩ = some (.slice (some ⟨gk, off, none⟩) 1 c2) ∧ (w8.setCell ⟨w.heap.size + 1 + 1, 4, none⟩ (.slice A8 n8 c8)).cell? ⟨gk, off, none⟩ = some q0 ∧ (w8.setCell ⟨w.heap.size + 1 + 1, 4, none⟩ (.slice A8 n8 c8)).cell? ⟨gk, off + 1, none⟩ = some q1 ∧ (w8.setCell ⟨w.heap.size + 1 + 1, 4, none⟩ (.slice A8 n8 c8)).cell? ⟨gk, off + 2, none⟩ = some q2 := ⟨cell_setD (hS3.1) (by omega), cell_setD (hS3.2.1) (by omega), cell_setD (hS3.2.2.1) (by omega), cell_setD (hS3.2.2.2) (by omega)⟩
          have HTz := hide (show TreeAtR (w8.setCell ⟨w.heap.size + 1 + 1, 4, none⟩ (.slice A8 n8 c8)) (w.heap.size + 1 + 1) _ (.slice none 0 0) [] [] (.slice A8 n8 c8) (ts ++ [t]) (us2 ++ [.int .i64 t.sort, .int .i64 t.num, .string t.text, .slice E1 t.names.length e1, .slice E2 t.kids.length e2]) (fi2 ++ fq7) from HTc.out.put2 hgb8 hown8 4 rfl (fun g hg => by
              rcases List.mem_append.1 hg with hg | hg
              · exact .inl hg
              · exact .inr ⟨fun e => absurd (HTa.out.one.lt g e) (Nat.not_lt.2 (HN7f.out g hg).1), fun h => by cases h⟩))
          have HDz := hide (HDb.out.low (B := w.heap.size + 1 + 1) ((hq1.mono (by omega)).trans (HTc.out.frame2 hgb8 hszc 4 (.slice A8 n8 c8) (Nat.le_refl _))) (Nat.le_refl _))
          refine hK.out _ _ hS3 (fun hHeld => ?_)
          clear hK K hHeld
          refine wpAnyH_take (i := 10) (v := .pointer (some ⟨w.heap.size + 1 + 1, 4, none⟩)) rfl (by kernel_rfl) (by kernel_rfl) (by kernel_rfl) (fun _ _ _ h => h) (Or.inl ⟨by kernel_rfl, by (intro W hS; go_simp; first | done | with_reducible rfl | rfl)⟩) hS3 ?_
          (try simp only [Act.put, List.getElem_toArray, List.getElem_cons_zero, List.getElem_cons_succ, List.setIfInBounds_toArray, List.set_cons_zero, List.set_cons_succ])
          refine wpAnyH_ready (rs := [11]) (by kernel_rfl) (by simp) ?_
          refine AllReadyH.cons rfl (fun K hK => ?_) AllReadyH.nil
          go_simp
          refine hK.out _ _ hS4 (fun hHeld => ?_)
          clear hK K hHeld hS0 hS2 hS3 hS4 x8 f8 l8 r8 hown8 hgb8 hq1
          refine wpAnyH_done (by kernel_rfl) ?_ _
          generalize (World.setCell _ _ _) = wz at HTz HDz ⊢
          clear HTa HDa HTc HTb HDb HO7 HN7 HN7w HN7f HN7r HO7c HN7c HN7s HOY HKC
          have hb1 := HBK.out
          have hk1_ := HKX.out
          have hta := HTA.out
          go_wp2
          go_roundw
          case rel => exact ⟨n, ts ++ [t], A8, n8, c8, _, _, k7, by go_num, HTz.out, HDz.out, by rw [List.length_append]; simp only [List.length_singleton]; omega, by rw [tbulkS_snoc, List.length_append, List.length_singleton, Nat.succ_mul]; omega, by rw [List.length_append, List.length_singleton, Nat.succ_mul]; omega⟩
          case measure => simp [intOf] <;> omega
        · refine AllReadyH.cons rfl (fun K hK => ?_) AllReadyH.nil
          go_simp
          go_at_call 54
          refine (HKC.out w6 HOY.out HDa.out.gr.size HDa.out.rd).mono ?_
          rintro e w7 ⟨t, us7, fq7, k7, rfl, ho7, hn7, hb7, hk7, hr7, hg7⟩
          obtain ⟨E1, e1, E2, e2, g1, g2, rfl, x0_, x1_, x2_, x3_, x4_, efq⟩ := ho7.oTree
          have hS1 : w7.cell? ⟨w.heap.size, 2, none⟩ = some (.slice (some ⟨gk, off, none⟩) 1 c2) ∧ w7.cell? ⟨gk, off, none⟩ = some q0 ∧ w7.cell? ⟨gk, off + 1, none⟩ = some q1 ∧ w7.cell? ⟨gk, off + 2, none⟩ = some q2 := ⟨cell_grD hg7 (hS0.1) (by omega), cell_grD hg7 (hS0.2.1) hgkg, cell_grD hg7 (hS0.2.2.1) hgkg, cell_grD hg7 (hS0.2.2.2) hgkg⟩
          have HDb := hide (HDa.out.tick hg7 hr7)
          have HTb := hide (HTa.out.farR hg7 (by omega))
          have HO7 := hide ho7
          have HN7 := hide (hn7.mono (show w.heap.size + 1 + 1 + 1 ≤ w6.heap.size from HTa.out.box.lt))
          have HN7w := hide hn7.lt
          have HN7r := hide hn7
          have HN7f := hide hn7.fr
          have HLT7 := hide (show w6.heap.size ≤ w7.heap.size from hg7.size)
          have y0 := HTb.out.box.cell 4
          have yl := HTb.out.box.lt
          clear ho7 hn7 hr7 x3_ x4_ efq
          try go_simp
          refine hK.out _ _ hS1 (fun hHeld => ?_)
          clear hK K hHeld hg7
          refine wpAnyH_ready (rs := [1, 8]) (by kernel_rfl) (by simp) ?_
          refine AllReadyH.cons rfl (fun K hK => ?_) ?_
          · skip
            go_simp
            refine hK.out _ _ hS1 (fun hHeld => ?_)
            clear hK K hHeld
            refine wpAnyH_ready (rs := [8]) (by kernel_rfl) (by simp) ?_
            refine AllReadyH.cons rfl (fun K hK => ?_) AllReadyH.nil
            have hq1 : Below w7.heap.size w7 (w7.alloc (.cells #[.int .i64 t.sort, .int .i64 t.num, .string t.text, .slice E1 t.names.length e1, .slice E2 t.kids.length e2] 26)) := (Below.refl _ _).alloc (Nat.le_refl _) _
            have hS2 : (w7.alloc (.cells #[.int .i64 t.sort, .int .i64 t.num, .string t.text, .slice E1 t.names.length e1, .slice E2 t.kids.length e2] 26)).cell? ⟨w.heap.size, 2, none⟩ = some (.slice (some ⟨gk, off, none⟩) 1 c2) ∧ (w7.alloc (.cells #[.int .i64 t.sort, .int .i64 t.num, .string t.text, .slice E1 t.names.length e1, .slice E2 t.kids.length e2] 26)).cell? ⟨gk, off, none⟩ = some q0 ∧ (w7.alloc (.cells #[.int .i64 t.sort, .int .i64 t.num, .string t.text, .slice E1 t.names.length e1, .slice E2 t.kids.length e2] 26)).cell? ⟨gk, off + 1, none⟩ = some q1 ∧ (w7.alloc (.cells #[.int .i64 t.sort, .int .i64 t.num, .string t.text, .slice E1 t.names.length e1, .slice E2 t.kids.length e2] 26)).cell? ⟨gk, off + 2, none⟩ = some q2 := ⟨(hq1.cell (cell_lt (hS1.1))).trans (hS1.1), (hq1.cell (cell_lt (hS1.2.1))).trans (hS1.2.1), (hq1.cell (cell_lt (hS1.2.2.1))).trans (hS1.2.2.1), (hq1.cell (cell_lt (hS1.2.2.2))).trans (hS1.2.2.2)⟩
            have HTc := hide (HTb.out.alloc (.cells #[.int .i64 t.sort, .int .i64 t.num, .string t.text, .slice E1 t.names.length e1, .slice E2 t.kids.length e2] 26))
            have hszc : w.heap.size + 1 + 1 + 1 ≤ (w7.alloc (.cells #[.int .i64 t.sort, .int .i64 t.num, .string t.text, .slice E1 t.names.length e1, .slice E2 t.kids.length e2] 26)).heap.size := by have := HTb.out.box.lt; rw [World.size_alloc]; omega
            have HO7c := hide (HO7.out.alloc HN7w.out (.cells #[.int .i64 t.sort, .int .i64 t.num, .string t.text, .slice E1 t.names.length e1, .slice E2 t.kids.length e2] 26))
            have HN7c := hide (HN7.out.alloc (.cells #[.int .i64 t.sort, .int .i64 t.num, .string t.text, .slice E1 t.names.length e1, .slice E2 t.kids.length e2] 26))
            have HN7s := hide (show New (w7.alloc (.cells #[.int .i64 t.sort, .int .i64 t.num, .string t.text, .slice E1 t.names.length e1, .slice E2 t.kids.length e2] 26)) fq7 w6.heap.size from HN7r.out.alloc _)
            go_simp
            refine hK.out _ _ hS2 (fun hHeld => ?_)
            clear hK K hHeld
            refine wpAnyH_ready (rs := [9]) (by kernel_rfl) (by simp) ?_
            refine AllReadyH.cons rfl (fun K hK => ?_) AllReadyH.nil
            refine step_app (by rfl) _ _ 24 (by rfl) ib _ 80 Tryz.underlying24 HIb.out hb0 hb1 hb2 rfl (by decide) Tree.cells_len (by rfl) HTc.out.two [t] (by rw [List.flatMap_singleton]; exact HO7c.out) (New.app HTc.out.two.new HN7s.out (fun g hg => HTa.out.two.new.lt g hg) (by exact HTa.out.box.lt)) (fun g e hm => by (have k1 := HTa.out.two.lt g e); (have k2 := (HN7f.out g hm).1); exact absurd k1 (Nat.not_lt.2 k2)) _ 1 1 (by rfl) rfl (SrcAt.new w7 _ _ _ _) (by omega) (by decide) hszc ?_
            intro A8 n8 c8 w8 hn8 hown8 hgb8
            clear hn8
            have r8 := HTc.out.row2 hgb8
            have x8 := r8.cell 4
            have f8 := r8.frozen 4
            have l8 := r8.lt
            have hS3 : w8.cell? ⟨w.heap.size, 2, none⟩ = some (.slice (some ⟨gk, off, none⟩) 1 c2) ∧ w8.cell? ⟨gk, off, none⟩ = some q0 ∧ w8.cell? ⟨gk, off + 1, none⟩ = some q1 ∧ w8.cell? ⟨gk, off + 2, none⟩ = some q2 := ⟨cell_gbD hgb8 (hS2.1) (HTc.out.two.low (by omega)), cell_gbD hgb8 (hS2.2.1) (HTc.out.two.low (by omega)), cell_gbD hgb8 (hS2.2.2.1) (HTc.out.two.low (by omega)), cell_gbD hgb8 (hS2.2.2.2) (HTc.out.two.low (by omega))⟩
            have hS4 : (w8.setCell ⟨w.heap.size + 1 + 1, 4, none⟩ (.slice A8 n8 c8)).cell? ⟨w.heap.size, 2, none⟩ = some (.slice (some ⟨gk, off, none⟩) 1 c2) ∧ (w8.setCell ⟨w.heap.size + 1 + 1, 4, none⟩ (.slice A8 n8 c8)).cell? ⟨gk, off, none⟩ = some q0 ∧ (w8.setCell ⟨w.heap.size + 1 + 1, 4, none⟩ (.slice A8 n8 c8)).cell? ⟨gk, off + 1, none⟩ = some q1 ∧ (w8.setCell ⟨w.heap.size + 1 + 1, 4, none⟩ (.slice A8 n8 c8)).cell? ⟨gk, off + 2, none⟩ = some q2 := ⟨cell_setD (hS3.1) (by omega), cell_setD (hS3.2.1) (by omega), cell_setD (hS3.2.2.1) (by omega), cell_setD (hS3.2.2.2) (by omega)⟩
            have HTz := hide (show TreeAtR (w8.setCell ⟨w.heap.size + 1 + 1, 4, none⟩ (.slice A8 n8 c8)) (w.heap.size + 1 + 1) _ (.slice none 0 0) [] [] (.slice A8 n8 c8) (ts ++ [t]) (us2 ++ [.int .i64 t.sort, .int .i64 t.num, .string t.text, .slice E1 t.names.length e1, .slice E2 t.kids.length e2]) (fi2 ++ fq7) from HTc.out.put2 hgb8 hown8 4 rfl (fun g hg => by
                rcases List.mem_append.1 hg with hg | hg
                · exact .inl hg
                · exact .inr ⟨fun e => absurd (HTa.out.one.lt g e) (Nat.not_lt.2 (HN7f.out g hg).1), fun h => by cases h⟩))
            have HDz := hide (HDb.out.low (B := w.heap.size + 1 + 1) ((hq1.mono (by omega)).trans (HTc.out.frame2 hgb8 hszc 4 (.slice A8 n8 c8) (Nat.le_refl _))) (Nat.le_refl _))
            refine hK.out _ _ hS3 (fun hHeld => ?_)
            clear hK K hHeld
            refine wpAnyH_take (i := 10) (v := .pointer (some ⟨w.heap.size + 1 + 1, 4, none⟩)) rfl (by kernel_rfl) (by kernel_rfl) (by kernel_rfl) (fun _ _ _ h => h) (Or.inl ⟨by kernel_rfl, by (intro W hS; go_simp; first | done | with_reducible rfl | rfl)⟩) hS3 ?_
            (try simp only [Act.put, List.getElem_toArray, List.getElem_cons_zero, List.getElem_cons_succ, List.setIfInBounds_toArray, List.set_cons_zero, List.set_cons_succ])
            refine wpAnyH_ready (rs := [11]) (by kernel_rfl) (by simp) ?_
            refine AllReadyH.cons rfl (fun K hK => ?_) AllReadyH.nil
            go_simp
            refine hK.out _ _ hS4 (fun hHeld => ?_)
            clear hK K hHeld hS0 hS2 hS3 hS4 x8 f8 l8 r8 hown8 hgb8 hq1
            refine wpAnyH_done (by kernel_rfl) ?_ _
            generalize (World.setCell _ _ _) = wz at HTz HDz ⊢
            clear HTa HDa HTc HTb HDb HO7 HN7 HN7w HN7f HN7r HO7c HN7c HN7s HOY HKC
            have hb1 := HBK.out
            have hk1_ := HKX.out
            have hta := HTA.out
            go_wp2
            go_roundw
            case rel => exact ⟨n, ts ++ [t], A8, n8, c8, _, _, k7, by go_num, HTz.out, HDz.out, by rw [List.length_append]; simp only [List.length_singleton]; omega, by rw [tbulkS_snoc, List.length_append, List.length_singleton, Nat.succ_mul]; omega, by rw [List.length_append, List.length_singleton, Nat.succ_mul]; omega⟩
            case measure => simp [intOf] <;> omega
          · refine AllReadyH.cons rfl (fun K hK => ?_) AllReadyH.nil
            have hq1 : Below w7.heap.size w7 (w7.alloc (.cells #[.int .i64 t.sort, .int .i64 t.num, .string t.text, .slice E1 t.names.length e1, .slice E2 t.kids.length e2] 26)) := (Below.refl _ _).alloc (Nat.le_refl _) _
            have hS2 : (w7.alloc (.cells #[.int .i64 t.sort, .int .i64 t.num, .string t.text, .slice E1 t.names.length e1, .slice E2 t.kids.length e2] 26)).cell? ⟨w.heap.size, 2, none⟩ = some (.slice (some ⟨gk, off, none⟩) 1 c2) ∧ (w7.alloc (.cells #[.int .i64 t.sort, .int .i64 t.num, .string t.text, .slice E1 t.names.length e1, .slice E2 t.kids.length e2] 26)).cell? ⟨gk, off, none⟩ = some q0 ∧ (w7.alloc (.cells #[.int .i64 t.sort, .int .i64 t.num, .string t.text, .slice E1 t.names.length e1, .slice E2 t.kids.length e2] 26)).cell? ⟨gk, off + 1, none⟩ = some q1 ∧ (w7.alloc (.cells #[.int .i64 t.sort, .int .i64 t.num, .string t.text, .slice E1 t.names.length e1, .slice E2 t.kids.length e2] 26)).cell? ⟨gk, off + 2, none⟩ = some q2 := ⟨(hq1.cell (cell_lt (hS1.1))).trans (hS1.1), (hq1.cell (cell_lt (hS1.2.1))).trans (hS1.2.1), (hq1.cell (cell_lt (hS1.2.2.1))).trans (hS1.2.2.1), (hq1.cell (cell_lt (hS1.2.2.2))).trans (hS1.2.2.2)⟩
            have HTc := hide (HTb.out.alloc (.cells #[.int .i64 t.sort, .int .i64 t.num, .string t.text, .slice E1 t.names.length e1, .slice E2 t.kids.length e2] 26))
            have hszc : w.heap.size + 1 + 1 + 1 ≤ (w7.alloc (.cells #[.int .i64 t.sort, .int .i64 t.num, .string t.text, .slice E1 t.names.length e1, .slice E2 t.kids.length e2] 26)).heap.size := by have := HTb.out.box.lt; rw [World.size_alloc]; omega
            have HO7c := hide (HO7.out.alloc HN7w.out (.cells #[.int .i64 t.sort, .int .i64 t.num, .string t.text, .slice E1 t.names.length e1, .slice E2 t.kids.length e2] 26))
            have HN7c := hide (HN7.out.alloc (.cells #[.int .i64 t.sort, .int .i64 t.num, .string t.text, .slice E1 t.names.length e1, .slice E2 t.kids.length e2] 26))
            have HN7s := hide (show New (w7.alloc (.cells #[.int .i64 t.sort, .int .i64 t.num, .string t.text, .slice E1 t.names.length e1, .slice E2 t.kids.length e2] 26)) fq7 w6.heap.size from HN7r.out.alloc _)
            go_simp
            refine hK.out _ _ hS2 (fun hHeld => ?_)
            clear hK K hHeld
            have u0 := HTc.out.box.cell 4
            have ul := HTc.out.box.lt
            refine wpAnyH_ready (rs := [1]) (by kernel_rfl) (by simp) ?_
            refine AllReadyH.cons rfl (fun K hK => ?_) AllReadyH.nil
            go_simp
            refine hK.out _ _ hS2 (fun hHeld => ?_)
            clear hK K hHeld
            clear u0 ul
            refine wpAnyH_ready (rs := [9]) (by kernel_rfl) (by simp) ?_
            refine AllReadyH.cons rfl (fun K hK => ?_) AllReadyH.nil
            refine step_app (by rfl) _ _ 24 (by rfl) ib _ 80 Tryz.underlying24 HIb.out hb0 hb1 hb2 rfl (by decide) Tree.cells_len (by rfl) HTc.out.two [t] (by rw [List.flatMap_singleton]; exact HO7c.out) (New.app HTc.out.two.new HN7s.out (fun g hg => HTa.out.two.new.lt g hg) (by exact HTa.out.box.lt)) (fun g e hm => by (have k1 := HTa.out.two.lt g e); (have k2 := (HN7f.out g hm).1); exact absurd k1 (Nat.not_lt.2 k2)) _ 1 1 (by rfl) rfl (SrcAt.new w7 _ _ _ _) (by omega) (by decide) hszc ?_
            intro A8 n8 c8 w8 hn8 hown8 hgb8
            clear hn8
            have r8 := HTc.out.row2 hgb8
            have x8 := r8.cell 4
            have f8 := r8.frozen 4
            have l8 := r8.lt
            have hS3 : w8.cell? ⟨w.heap.size, 2, none⟩ = some (.slice (some ⟨gk, off, none⟩) 1 c2) ∧ w8.cell? ⟨gk, off, none⟩ = some q0 ∧ w8.cell? ⟨gk, off + 1, none⟩ = some q1 ∧ w8.cell? ⟨gk, off + 2, none⟩ = some q2 := ⟨cell_gbD hgb8 (hS2.1) (HTc.out.two.low (by omega)), cell_gbD hgb8 (hS2.2.1) (HTc.out.two.low (by omega)), cell_gbD hgb8 (hS2.2.2.1) (HTc.out.two.low (by omega)), cell_gbD hgb8 (hS2.2.2.2) (HTc.out.two.low (by omega))⟩
            have hS4 : (w8.setCell ⟨w.heap.size + 1 + 1, 4, none⟩ (.slice A8 n8 c8)).cell? ⟨w.heap.size, 2, none⟩ = some (.slice (some ⟨gk, off, none⟩) 1 c2) ∧ (w8.setCell ⟨w.heap.size + 1 + 1, 4, none⟩ (.slice A8 n8 c8)).cell? ⟨gk, off, none⟩ = some q0 ∧ (w8.setCell ⟨w.heap.size + 1 + 1, 4, none⟩ (.slice A8 n8 c8)).cell? ⟨gk, off + 1, none⟩ = some q1 ∧ (w8.setCell ⟨w.heap.size + 1 + 1, 4, none⟩ (.slice A8 n8 c8)).cell? ⟨gk, off + 2, none⟩ = some q2 := ⟨cell_setD (hS3.1) (by omega), cell_setD (hS3.2.1) (by omega), cell_setD (hS3.2.2.1) (by omega), cell_setD (hS3.2.2.2) (by omega)⟩
            have HTz := hide (show TreeAtR (w8.setCell ⟨w.heap.size + 1 + 1, 4, none⟩ (.slice A8 n8 c8)) (w.heap.size + 1 + 1) _ (.slice none 0 0) [] [] (.slice A8 n8 c8) (ts ++ [t]) (us2 ++ [.int .i64 t.sort, .int .i64 t.num, .string t.text, .slice E1 t.names.length e1, .slice E2 t.kids.length e2]) (fi2 ++ fq7) from HTc.out.put2 hgb8 hown8 4 rfl (fun g hg => by
                rcases List.mem_append.1 hg with hg | hg
                · exact .inl hg
                · exact .inr ⟨fun e => absurd (HTa.out.one.lt g e) (Nat.not_lt.2 (HN7f.out g hg).1), fun h => by cases h⟩))
            have HDz := hide (HDb.out.low (B := w.heap.size + 1 + 1) ((hq1.mono (by omega)).trans (HTc.out.frame2 hgb8 hszc 4 (.slice A8 n8 c8) (Nat.le_refl _))) (Nat.le_refl _))
            refine hK.out _ _ hS3 (fun hHeld => ?_)
            clear hK K hHeld
            refine wpAnyH_take (i := 10) (v := .pointer (some ⟨w.heap.size + 1 + 1, 4, none⟩)) rfl (by kernel_rfl) (by kernel_rfl) (by kernel_rfl) (fun _ _ _ h => h) (Or.inl ⟨by kernel_rfl, by (intro W hS; go_simp; first | done | with_reducible rfl | rfl)⟩) hS3 ?_
            (try simp only [Act.put, List.getElem_toArray, List.getElem_cons_zero, List.getElem_cons_succ, List.setIfInBounds_toArray, List.set_cons_zero, List.set_cons_succ])
            refine wpAnyH_ready (rs := [11]) (by kernel_rfl) (by simp) ?_
            refine AllReadyH.cons rfl (fun K hK => ?_) AllReadyH.nil
            go_simp
            refine hK.out _ _ hS4 (fun hHeld => ?_)
            clear hK K hHeld hS0 hS2 hS3 hS4 x8 f8 l8 r8 hown8 hgb8 hq1
            refine wpAnyH_done (by kernel_rfl) ?_ _
            generalize (World.setCell _ _ _) = wz at HTz HDz ⊢
            clear HTa HDa HTc HTb HDb HO7 HN7 HN7w HN7f HN7r HO7c HN7c HN7s HOY HKC
            have hb1 := HBK.out
            have hk1_ := HKX.out
            have hta := HTA.out
            go_wp2
            go_roundw
            case rel => exact ⟨n, ts ++ [t], A8, n8, c8, _, _, k7, by go_num, HTz.out, HDz.out, by rw [List.length_append]; simp only [List.length_singleton]; omega, by rw [tbulkS_snoc, List.length_append, List.length_singleton, Nat.succ_mul]; omega, by rw [List.length_append, List.length_singleton, Nat.succ_mul]; omega⟩
            case measure => simp [intOf] <;> omega
  · obtain ⟨ia, hia, ha0, ha1, ha2⟩ := info_parts info_strR
    obtain ⟨ib, hib, hb0, hb1, hb2⟩ := info_parts info_TreeR
    have HIa := hide hia
    have HIb := hide hib
    have HT5 := hide (show TreeAtR w1 (w.heap.size + 1 + 1) 5 (.slice none 0 0) [] [] (.slice none 0 0) [] [] [] from ⟨HT.out, OwS.nil _ _ _ _ _, OwS.nil _ _ _ _ _, Nat.lt_succ_self _, fun g h => (by cases h), fun g h => (by cases h), fun g h => (by cases h), fun g h => (by cases h)⟩)
    have HK1 := hide hk1
    clear hia hib HT
    go_wp2_with fail
    clear k0 k1 k2 kl
    go_loopw [7] (fun iv wr => ∃ (j : Nat) (ts : List Tree) (B1 : Option Addr) (n1 d1 : Nat) (us1 : List Value) (B2 : Option Addr) (n2 d2 : Nat) (us2 : List Value) (fi2 : List Nat) (kx : Nat), iv = .int .i64 (j : Int) ∧ TreeAtR wr (w.heap.size + 1 + 1) 5 (.slice B1 n1 d1) (ns.take j) us1 (.slice B2 n2 d2) ts us2 fi2 ∧ TrD 5 ns ks A1 c1 A2 c2 f1 f2 g L w wr kx ∧ j ≤ ks.length ∧ ts.length = j ∧ Tree.bulkS ts ≤ Kind.tnS (ks.take j) ∧ kx ≤ k + Kind.tpS (ks.take j)) (fun iv _ => ks.length - (intOf iv).toNat)
    case atStart => exact ⟨0, [], none, 0, 0, [], none, 0, 0, [], [], k, rfl, HT5.out, HD.out, Nat.zero_le _, rfl, Nat.zero_le _, Nat.le_add_right _ _⟩
    case round =>
      obtain ⟨j, ts, B1, n1, d1, us1, B2, n2, d2, us2, fi2, kx, rfl, hT, hD, hjk, htl, hbk, hkx⟩ := hrel
      have HTr := hide hT
      have HDr := hide hD
      have HTL := hide htl
      have HBK := hide hbk
      have HKX := hide hkx
      clear hT hD hbk hkx htl HD HT5
      have k1 := HDr.out.K.cell 1
      have k2 := HDr.out.K.cell 2
      have kl := HDr.out.K.lt
      rw [hk1] at k1
      by_cases hj : j < ks.length
      rotate_left
      · have hji : ¬ ((j : Int) < (ks.length : Int)) := by omega
        obtain rfl : j = ks.length := by omega
        have etk : ns.take ks.length = ns := List.take_of_length_le (by have := HK1.out; omega)
        have etn : ks.take ks.length = ks := List.take_of_length_le (Nat.le_refl _)
        have HTe := hide (show TreeAtR wr (w.heap.size + 1 + 1) 5 (.slice B1 n1 d1) ns us1 (.slice B2 n2 d2) ts us2 fi2 from by have h := HTr.out; rw [etk] at h; exact h)
        have hbe : Tree.bulkS ts ≤ Kind.tnS ks := by have h := HBK.out; rw [etn] at h; exact h
        have hke : kx ≤ k + Kind.tpS ks := by have h := HKX.out; rw [etn] at h; exact h
        have HBE := hide hbe
        have HKE := hide hke
        have HTX := hide HTe.out.box
        clear etk etn hbe hke k1 k2 kl hjk
        have q0 := HTX.out.cell 0
        have q1 := HTX.out.cell 1
        have q2 := HTX.out.cell 2
        have q3 := HTX.out.cell 3
        have q4 := HTX.out.cell 4
        have z0 := HDr.out.Z.cell 0
        have zf0 := HDr.out.Z.frozen 0
        have z1 := HDr.out.Z.cell 1
        have zf1 := HDr.out.Z.frozen 1
        have z2 := HDr.out.Z.cell 2
        have zf2 := HDr.out.Z.frozen 2
        have z3 := HDr.out.Z.cell 3
        have zf3 := HDr.out.Z.frozen 3
        have z4 := HDr.out.Z.cell 4
        have zf4 := HDr.out.Z.frozen 4
        have lq := HTX.out.lt
        have lz := HDr.out.Z.lt
        have k1 := HDr.out.K.cell 1
        rw [HK1.out] at k1
        have kl := HDr.out.K.lt
        go_wp2
        refine bodyPost_ret (ret_row rfl _ _ (w.heap.size + 1) 26 (treeMkR 5 (.slice B1 n1 d1) (.slice B2 n2 d2)) (HDr.out.Z.setAll (treeMkR 5 (.slice B1 n1 d1) (.slice B2 n2 d2)) rfl) _ rfl Tryz.underlying26 rfl (by kernel_rfl)) rfl ?_
        obtain ⟨fq, ho, hnw⟩ := tform_ow HTe.out (by decide)
        exact HDr.out.fin (t := .mk 5 0 .empty ns ts) ho (hnw.mono (Nat.le_succ _)) (by rw [Tree.bulk_mk]; simp only [ByteArray.size_empty]; have := HTN.out; have := HBE.out; have := HTL.out; omega) (by have := HTP.out; have := HKE.out; omega)
      · have hji : (j : Int) < (ks.length : Int) := by omega
        have hjn : j < ns.length := by have := HK1.out; omega
        obtain ⟨x, hx⟩ : ∃ x, ns[j] = x := ⟨_, rfl⟩
        have HTK := hide (show ns.take (j + 1) = ns.take j ++ [x] from by rw [← hx]; exact List.take_succ_eq_append_getElem hjn)
        have HX := hide hx
        have HJN := hide hjn
        clear hx hk1
        go_upto_region 21 with fail
        go_cut [] from 69 to 79 (fun wx => ∃ (C1 : Option Addr) (m1 e1 : Nat) (us1' : List Value), TreeAtR wx (w.heap.size + 1 + 1) 5 (.slice C1 m1 e1) (ns.take j ++ [x]) us1' (.slice B2 n2 d2) ts us2 fi2 ∧ TrD 5 ns ks A1 c1 A2 c2 f1 f2 g L w wx kx)
        case first =>
          obtain ⟨gm, om, rfl, hgm, pn, hxs⟩ := name_cell HDr.out.o1 HJN.out
          rw [HX.out] at pn hxs
          have hgk := HDr.out.lt.left gm hgm
          have hgkg : gm ≠ g := fun e => HDr.out.ng (List.mem_append_left _ (e ▸ hgm))
          have HDS := hide (fun W => show OwC W ([x].flatMap strC) [.string x] [] from ⟨[], [], ⟨rfl, hxs, rfl⟩, rfl, rfl⟩)
          have hjk3 : j ≤ 1000000 := by have := HTN.out; omega
          have htl3 : (ns.take j).length ≤ 1000000 := by rw [List.length_take]; omega
          clear hgm hxs
          have hq0 : Below wr.heap.size wr wr.drew := below_drewN (Below.refl _ _) 1
          have HDa := hide (HDr.out.low hq0 (by have := HTr.out.box.lt; omega))
          have HTa := hide (show TreeAtR wr.drew (w.heap.size + 1 + 1) _ (.slice B1 n1 d1) (ns.take j) us1 (.slice B2 n2 d2) ts us2 fi2 from HTr.out.drewN 1)
          have hS0 : wr.drew.cell? ⟨w.heap.size, 1, none⟩ = some (.slice (some ⟨gm, om, none⟩) ks.length c1) ∧ wr.drew.cell? ⟨gm, om + j, none⟩ = some (.string x) := ⟨(hq0.cell (cell_lt k1)).trans k1, (hq0.cell (cell_lt pn)).trans pn⟩
          go_wp2_with fail
          refine wp_region_held_drew (S := fun W => W.cell? ⟨w.heap.size, 1, none⟩ = some (.slice (some ⟨gm, om, none⟩) ks.length c1) ∧ W.cell? ⟨gm, om + j, none⟩ = some (.string x)) (by kernel_rfl) hS0 (fun _ => ?_)
          clear hq0
          generalize wr.drew = w6 at *
          refine wpAnyH_take (i := 0) (v := .pointer (some ⟨w.heap.size + 1 + 1, 3, none⟩)) rfl (by kernel_rfl) (by kernel_rfl) (by kernel_rfl) (fun _ _ _ h => h) (Or.inl ⟨by kernel_rfl, by (intro W hS; go_simp; first | done | with_reducible rfl | rfl)⟩) hS0 ?_
          (try simp only [Act.put, List.getElem_toArray, List.getElem_cons_zero, List.getElem_cons_succ, List.setIfInBounds_toArray, List.set_cons_zero, List.set_cons_succ])
          refine wpAnyH_take (i := 2) (v := .pointer (some ⟨w.heap.size, 1, none⟩)) rfl (by kernel_rfl) (by kernel_rfl) (by kernel_rfl) (fun _ _ _ h => h) (Or.inl ⟨by kernel_rfl, by (intro W hS; go_simp; first | done | with_reducible rfl | rfl)⟩) hS0 ?_
          (try simp only [Act.put, List.getElem_toArray, List.getElem_cons_zero, List.getElem_cons_succ, List.setIfInBounds_toArray, List.set_cons_zero, List.set_cons_succ])
          refine wpAnyH_take (i := 3) (v := .slice (some ⟨gm, om, none⟩) ks.length c1) rfl (by kernel_rfl) (by kernel_rfl) (by kernel_rfl) (fun _ _ _ h => h) (Or.inl ⟨by kernel_rfl, by (intro W hS; have y := hS.1; have yl := cell_lt y; go_simp; first | done | with_reducible rfl | rfl)⟩) hS0 ?_
          (try simp only [Act.put, List.getElem_toArray, List.getElem_cons_zero, List.getElem_cons_succ, List.setIfInBounds_toArray, List.set_cons_zero, List.set_cons_succ])
          refine wpAnyH_take (i := 4) (v := .int .i64 (j : Int)) rfl (by kernel_rfl) (by kernel_rfl) (by kernel_rfl) (fun _ _ _ h => h) (Or.inl ⟨by kernel_rfl, by (intro W hS; go_simp; first | done | with_reducible rfl | rfl)⟩) hS0 ?_
          (try simp only [Act.put, List.getElem_toArray, List.getElem_cons_zero, List.getElem_cons_succ, List.setIfInBounds_toArray, List.set_cons_zero, List.set_cons_succ])
          refine wpAnyH_take (i := 5) (v := .pointer (some ⟨gm, om + j, none⟩)) rfl (by kernel_rfl) (by kernel_rfl) (by kernel_rfl) (fun _ _ _ h => h) (Or.inl ⟨by kernel_rfl, by (intro W hS; go_simp; first | done | with_reducible rfl | rfl)⟩) hS0 ?_
          (try simp only [Act.put, List.getElem_toArray, List.getElem_cons_zero, List.getElem_cons_succ, List.setIfInBounds_toArray, List.set_cons_zero, List.set_cons_succ])
          refine wpAnyH_take (i := 6) (v := .string x) rfl (by kernel_rfl) (by kernel_rfl) (by kernel_rfl) (fun _ _ _ h => h) (Or.inl ⟨by kernel_rfl, by (intro W hS; have y := hS.2; have yl := cell_lt y; go_simp; first | done | with_reducible rfl | rfl)⟩) hS0 ?_
          (try simp only [Act.put, List.getElem_toArray, List.getElem_cons_zero, List.getElem_cons_succ, List.setIfInBounds_toArray, List.set_cons_zero, List.set_cons_succ])
          have x0 := HTa.out.box.cell 3
          have xl := HTa.out.box.lt
          refine wpAnyH_ready (rs := [1, 7]) (by kernel_rfl) (by simp) ?_
          refine AllReadyH.cons rfl (fun K hK => ?_) ?_
          · skip
            go_simp
            refine hK.out _ _ hS0 (fun hHeld => ?_)
            clear hK K hHeld
            refine wpAnyH_ready (rs := [7]) (by kernel_rfl) (by simp) ?_
            refine AllReadyH.cons rfl (fun K hK => ?_) AllReadyH.nil
            have hq1 : Below w6.heap.size w6 (w6.alloc (.cells #[.string x] 9)) := (Below.refl _ _).alloc (Nat.le_refl _) _
            have hS2 : (w6.alloc (.cells #[.string x] 9)).cell? ⟨w.heap.size, 1, none⟩ = some (.slice (some ⟨gm, om, none⟩) ks.length c1) ∧ (w6.alloc (.cells #[.string x] 9)).cell? ⟨gm, om + j, none⟩ = some (.string x) := ⟨(hq1.cell (cell_lt (hS0.1))).trans (hS0.1), (hq1.cell (cell_lt (hS0.2))).trans (hS0.2)⟩
            have HTc := hide (HTa.out.alloc (.cells #[.string x] 9))
            have hszc : w.heap.size + 1 + 1 + 1 ≤ (w6.alloc (.cells #[.string x] 9)).heap.size := by have := HTa.out.box.lt; rw [World.size_alloc]; omega
            go_simp
            refine hK.out _ _ hS2 (fun hHeld => ?_)
            clear hK K hHeld
            refine wpAnyH_ready (rs := [8]) (by kernel_rfl) (by simp) ?_
            refine AllReadyH.cons rfl (fun K hK => ?_) AllReadyH.nil
            refine step_app (by rfl) _ _ 23 (by rfl) ia _ 16 Tryz.underlying23 HIa.out ha0 ha1 ha2 rfl (by decide) strC_len (by rfl) HTc.out.one [x] (HDS.out _) (by exact New.nil _ _) (fun g _ hg => by cases hg) _ 1 1 (by rfl) rfl (SrcAt.new w6 _ _ _ _) (by omega) (by decide) hszc ?_
            intro A8 n8 c8 w8 hn8 hown8 hgb8
            clear hn8
            have r8 := HTc.out.row1 hgb8
            have x8 := r8.cell 3
            have f8 := r8.frozen 3
            have l8 := r8.lt
            have hS3 : w8.cell? ⟨w.heap.size, 1, none⟩ = some (.slice (some ⟨gm, om, none⟩) ks.length c1) ∧ w8.cell? ⟨gm, om + j, none⟩ = some (.string x) := ⟨cell_gbD hgb8 (hS2.1) (HTc.out.one.low (by omega)), cell_gbD hgb8 (hS2.2) (HTc.out.one.low (by omega))⟩
            have hS4 : (w8.setCell ⟨w.heap.size + 1 + 1, 3, none⟩ (.slice A8 n8 c8)).cell? ⟨w.heap.size, 1, none⟩ = some (.slice (some ⟨gm, om, none⟩) ks.length c1) ∧ (w8.setCell ⟨w.heap.size + 1 + 1, 3, none⟩ (.slice A8 n8 c8)).cell? ⟨gm, om + j, none⟩ = some (.string x) := ⟨cell_setD (hS3.1) (by omega), cell_setD (hS3.2) (by omega)⟩
            have HTz := hide (show TreeAtR (w8.setCell ⟨w.heap.size + 1 + 1, 3, none⟩ (.slice A8 n8 c8)) (w.heap.size + 1 + 1) _ (.slice A8 n8 c8) ((ns.take j) ++ [x]) (us1 ++ [.string x]) (.slice B2 n2 d2) ts us2 fi2 from HTc.out.put1 hgb8 hown8 3 rfl (fun g hg => by cases hg))
            have HDz := hide (HDa.out.low (B := w.heap.size + 1 + 1) ((hq1.mono (by omega)).trans (HTc.out.frame1 hgb8 hszc 3 (.slice A8 n8 c8) (Nat.le_refl _))) (Nat.le_refl _))
            refine hK.out _ _ hS3 (fun hHeld => ?_)
            clear hK K hHeld
            refine wpAnyH_take (i := 9) (v := .pointer (some ⟨w.heap.size + 1 + 1, 3, none⟩)) rfl (by kernel_rfl) (by kernel_rfl) (by kernel_rfl) (fun _ _ _ h => h) (Or.inl ⟨by kernel_rfl, by (intro W hS; go_simp; first | done | with_reducible rfl | rfl)⟩) hS3 ?_
            (try simp only [Act.put, List.getElem_toArray, List.getElem_cons_zero, List.getElem_cons_succ, List.setIfInBounds_toArray, List.set_cons_zero, List.set_cons_succ])
            refine wpAnyH_ready (rs := [10]) (by kernel_rfl) (by simp) ?_
            refine AllReadyH.cons rfl (fun K hK => ?_) AllReadyH.nil
            go_simp
            refine hK.out _ _ hS4 (fun hHeld => ?_)
            clear hK K hHeld hS0 hS2 hS3 hS4 x8 f8 l8 r8 hown8 hgb8 hq1
            refine wpAnyH_done (by kernel_rfl) ?_ _
            generalize (World.setCell _ _ _) = wz at HTz HDz ⊢
            go_wp2_with fail
            go_meet
            exact ⟨A8, n8, c8, _, HTz.out, HDz.out⟩
          · refine AllReadyH.cons rfl (fun K hK => ?_) AllReadyH.nil
            have hq1 : Below w6.heap.size w6 (w6.alloc (.cells #[.string x] 9)) := (Below.refl _ _).alloc (Nat.le_refl _) _
            have hS2 : (w6.alloc (.cells #[.string x] 9)).cell? ⟨w.heap.size, 1, none⟩ = some (.slice (some ⟨gm, om, none⟩) ks.length c1) ∧ (w6.alloc (.cells #[.string x] 9)).cell? ⟨gm, om + j, none⟩ = some (.string x) := ⟨(hq1.cell (cell_lt (hS0.1))).trans (hS0.1), (hq1.cell (cell_lt (hS0.2))).trans (hS0.2)⟩
            have HTc := hide (HTa.out.alloc (.cells #[.string x] 9))
            have hszc : w.heap.size + 1 + 1 + 1 ≤ (w6.alloc (.cells #[.string x] 9)).heap.size := by have := HTa.out.box.lt; rw [World.size_alloc]; omega
            go_simp
            refine hK.out _ _ hS2 (fun hHeld => ?_)
            clear hK K hHeld
            have y0 := HTc.out.box.cell 3
            have yl := HTc.out.box.lt
            refine wpAnyH_ready (rs := [1]) (by kernel_rfl) (by simp) ?_
            refine AllReadyH.cons rfl (fun K hK => ?_) AllReadyH.nil
            go_simp
            refine hK.out _ _ hS2 (fun hHeld => ?_)
            clear hK K hHeld
            clear y0 yl
            refine wpAnyH_ready (rs := [8]) (by kernel_rfl) (by simp) ?_
            refine AllReadyH.cons rfl (fun K hK => ?_) AllReadyH.nil
            refine step_app (by rfl) _ _ 23 (by rfl) ia _ 16 Tryz.underlying23 HIa.out ha0 ha1 ha2 rfl (by decide) strC_len (by rfl) HTc.out.one [x] (HDS.out _) (by exact New.nil _ _) (fun g _ hg => by cases hg) _ 1 1 (by rfl) rfl (SrcAt.new w6 _ _ _ _) (by omega) (by decide) hszc ?_
            intro A8 n8 c8 w8 hn8 hown8 hgb8
            clear hn8
            have r8 := HTc.out.row1 hgb8
            have x8 := r8.cell 3
            have f8 := r8.frozen 3
            have l8 := r8.lt
            have hS3 : w8.cell? ⟨w.heap.size, 1, none⟩ = some (.slice (some ⟨gm, om, none⟩) ks.length c1) ∧ w8.cell? ⟨gm, om + j, none⟩ = some (.string x) := ⟨cell_gbD hgb8 (hS2.1) (HTc.out.one.low (by omega)), cell_gbD hgb8 (hS2.2) (HTc.out.one.low (by omega))⟩
            have hS4 : (w8.setCell ⟨w.heap.size + 1 + 1, 3, none⟩ (.slice A8 n8 c8)).cell? ⟨w.heap.size, 1, none⟩ = some (.slice (some ⟨gm, om, none⟩) ks.length c1) ∧ (w8.setCell ⟨w.heap.size + 1 + 1, 3, none⟩ (.slice A8 n8 c8)).cell? ⟨gm, om + j, none⟩ = some (.string x) := ⟨cell_setD (hS3.1) (by omega), cell_setD (hS3.2) (by omega)⟩
            have HTz := hide (show TreeAtR (w8.setCell ⟨w.heap.size + 1 + 1, 3, none⟩ (.slice A8 n8 c8)) (w.heap.size + 1 + 1) _ (.slice A8 n8 c8) ((ns.take j) ++ [x]) (us1 ++ [.string x]) (.slice B2 n2 d2) ts us2 fi2 from HTc.out.put1 hgb8 hown8 3 rfl (fun g hg => by cases hg))
            have HDz := hide (HDa.out.low (B := w.heap.size + 1 + 1) ((hq1.mono (by omega)).trans (HTc.out.frame1 hgb8 hszc 3 (.slice A8 n8 c8) (Nat.le_refl _))) (Nat.le_refl _))
            refine hK.out _ _ hS3 (fun hHeld => ?_)
            clear hK K hHeld
            refine wpAnyH_take (i := 9) (v := .pointer (some ⟨w.heap.size + 1 + 1, 3, none⟩)) rfl (by kernel_rfl) (by kernel_rfl) (by kernel_rfl) (fun _ _ _ h => h) (Or.inl ⟨by kernel_rfl, by (intro W hS; go_simp; first | done | with_reducible rfl | rfl)⟩) hS3 ?_
            (try simp only [Act.put, List.getElem_toArray, List.getElem_cons_zero, List.getElem_cons_succ, List.setIfInBounds_toArray, List.set_cons_zero, List.set_cons_succ])
            refine wpAnyH_ready (rs := [10]) (by kernel_rfl) (by simp) ?_
            refine AllReadyH.cons rfl (fun K hK => ?_) AllReadyH.nil
            go_simp
            refine hK.out _ _ hS4 (fun hHeld => ?_)
            clear hK K hHeld hS0 hS2 hS3 hS4 x8 f8 l8 r8 hown8 hgb8 hq1
            refine wpAnyH_done (by kernel_rfl) ?_ _
            generalize (World.setCell _ _ _) = wz at HTz HDz ⊢
            go_wp2_with fail
            go_meet
            exact ⟨A8, n8, c8, _, HTz.out, HDz.out⟩
        case rest =>
          obtain ⟨C1, m1, e1_, us1', hT, hD⟩ := hcut
          have HTq := hide hT
          have HDq := hide hD
          clear hT hD HTr HDr k1 k2 kl
          obtain ⟨gk, off, q0, q1, q2, fi, rfl, hgm, hfs, p0, p1, p2, hoy⟩ := kid_cells HDq.out.o2 hj
          have hmem : ks[j] ∈ ks := List.getElem_mem hj
          have hgd : ks[j].good (lv + 1) := Kind.goodS_at HGK.out hj
          have HTA := hide (show Kind.tnS (ks.take (j + 1)) = Kind.tnS (ks.take j) + ks[j].tn ∧ Kind.tpS (ks.take (j + 1)) = Kind.tpS (ks.take j) + ks[j].tp ∧ Kind.tnS (ks.take (j + 1)) ≤ Kind.tnS ks ∧ Kind.tpS (ks.take (j + 1)) ≤ Kind.tpS ks from ⟨Kind.tnS_snoc ks j hj, Kind.tpS_snoc ks j hj, Kind.tnS_le ks _, Kind.tpS_le ks _⟩)
          have HOY := hide (show OwC wc.drew ks[j].cells [q0, q1, q2] fi from hoy.below (below_drewN (Below.refl wc.heap.size wc) 1) (fun b hb => Nat.lt_of_lt_of_le (HDq.out.lt.right b (hfs hb)) HDq.out.gr.size))
          have hgk := HDq.out.lt.right gk hgm
          have hgkg : gk ≠ g := fun e => HDq.out.ng (List.mem_append_right _ (e ▸ hgm))
          have HKC := hide (fun (W : World) (hO : OwC W ks[j].cells [q0, q1, q2] fi) (hs : w.heap.size ≤ W.heap.size) (hr : RdD W g L kx) => show Calls Tryz.prog 54 #[.pointer (some ⟨g, 0, none⟩), .agg #[q0, q1, q2]] W (TDraw g L kx ks[j].tn ks[j].tp W) from
            HIH.out ks[j] hmem [q0, q1, q2] fi L kx g (lv + 1) W hO (fun b hb => Nat.lt_of_lt_of_le (HDq.out.lt.right b (hfs hb)) hs) hgd (fun hm => HDq.out.ng (List.mem_append_right _ (hfs hm))) hr (by have := HTP.out; have := HTA.out; have := HKX.out; omega) (by have := HTN.out; have := HTA.out; omega))
          have k2 := HDq.out.K.cell 2
          have kl := HDq.out.K.lt
          have hts : ts.length ≤ 1000000 := by have := HTL.out; have := HTN.out; omega
          clear hoy hfs hgm hmem hgd
          generalize ks[j] = y at *
          have hq0 : Below wc.heap.size wc wc.drew := below_drewN (Below.refl _ _) 1
          have HDa := hide (HDq.out.low hq0 (by have := HTq.out.box.lt; omega))
          have HTa := hide (show TreeAtR wc.drew (w.heap.size + 1 + 1) _ (.slice C1 m1 e1_) (ns.take j ++ [x]) us1' (.slice B2 n2 d2) ts us2 fi2 from HTq.out.drewN 1)
          have hS0 : wc.drew.cell? ⟨w.heap.size, 2, none⟩ = some (.slice (some ⟨gk, off, none⟩) ks.length c2) ∧ wc.drew.cell? ⟨gk, off + j * 3, none⟩ = some q0 ∧ wc.drew.cell? ⟨gk, off + j * 3 + 1, none⟩ = some q1 ∧ wc.drew.cell? ⟨gk, off + j * 3 + 2, none⟩ = some q2 := ⟨(hq0.cell (cell_lt k2)).trans k2, (hq0.cell (cell_lt p0)).trans p0, (hq0.cell (cell_lt p1)).trans p1, (hq0.cell (cell_lt p2)).trans p2⟩
          go_wp2_with fail
          refine wp_region_held_drew (S := fun W => W.cell? ⟨w.heap.size, 2, none⟩ = some (.slice (some ⟨gk, off, none⟩) ks.length c2) ∧ W.cell? ⟨gk, off + j * 3, none⟩ = some q0 ∧ W.cell? ⟨gk, off + j * 3 + 1, none⟩ = some q1 ∧ W.cell? ⟨gk, off + j * 3 + 2, none⟩ = some q2) (by kernel_rfl) hS0 (fun _ => ?_)
          clear hq0
          generalize wc.drew = w6 at *
          refine wpAnyH_take (i := 0) (v := .pointer (some ⟨w.heap.size + 1 + 1, 4, none⟩)) rfl (by kernel_rfl) (by kernel_rfl) (by kernel_rfl) (fun _ _ _ h => h) (Or.inl ⟨by kernel_rfl, by (intro W hS; go_simp; first | done | with_reducible rfl | rfl)⟩) hS0 ?_
          (try simp only [Act.put, List.getElem_toArray, List.getElem_cons_zero, List.getElem_cons_succ, List.setIfInBounds_toArray, List.set_cons_zero, List.set_cons_succ])
          refine wpAnyH_take (i := 2) (v := .pointer (some ⟨g, 0, none⟩)) rfl (by kernel_rfl) (by kernel_rfl) (by kernel_rfl) (fun _ _ _ h => h) (Or.inl ⟨by kernel_rfl, by (intro W hS; go_simp; first | done | with_reducible rfl | rfl)⟩) hS0 ?_
          (try simp only [Act.put, List.getElem_toArray, List.getElem_cons_zero, List.getElem_cons_succ, List.setIfInBounds_toArray, List.set_cons_zero, List.set_cons_succ])
          refine wpAnyH_take (i := 3) (v := .pointer (some ⟨w.heap.size, 2, none⟩)) rfl (by kernel_rfl) (by kernel_rfl) (by kernel_rfl) (fun _ _ _ h => h) (Or.inl ⟨by kernel_rfl, by (intro W hS; go_simp; first | done | with_reducible rfl | rfl)⟩) hS0 ?_
          (try simp only [Act.put, List.getElem_toArray, List.getElem_cons_zero, List.getElem_cons_succ, List.setIfInBounds_toArray, List.set_cons_zero, List.set_cons_succ])
          refine wpAnyH_take (i := 4) (v := .slice (some ⟨gk, off, none⟩) ks.length c2) rfl (by kernel_rfl) (by kernel_rfl) (by kernel_rfl) (fun _ _ _ h => h) (Or.inl ⟨by kernel_rfl, by (intro W hS; have y := hS.1; have yl := cell_lt y; go_simp; first | done | with_reducible rfl | rfl)⟩) hS0 ?_
          (try simp only [Act.put, List.getElem_toArray, List.getElem_cons_zero, List.getElem_cons_succ, List.setIfInBounds_toArray, List.set_cons_zero, List.set_cons_succ])
          refine wpAnyH_take (i := 5) (v := .int .i64 (j : Int)) rfl (by kernel_rfl) (by kernel_rfl) (by kernel_rfl) (fun _ _ _ h => h) (Or.inl ⟨by kernel_rfl, by (intro W hS; go_simp; first | done | with_reducible rfl | rfl)⟩) hS0 ?_
          (try simp only [Act.put, List.getElem_toArray, List.getElem_cons_zero, List.getElem_cons_succ, List.setIfInBounds_toArray, List.set_cons_zero, List.set_cons_succ])
          refine wpAnyH_take (i := 6) (v := .pointer (some ⟨gk, off + j * 3, none⟩)) rfl (by kernel_rfl) (by kernel_rfl) (by kernel_rfl) (fun _ _ _ h => h) (Or.inl ⟨by kernel_rfl, by (intro W hS; go_simp; first | done | with_reducible rfl | rfl)⟩) hS0 ?_
          (try simp only [Act.put, List.getElem_toArray, List.getElem_cons_zero, List.getElem_cons_succ, List.setIfInBounds_toArray, List.set_cons_zero, List.set_cons_succ])
          refine wpAnyH_take (i := 7) (v := .agg #[q0, q1, q2]) rfl (by kernel_rfl) (by kernel_rfl) (by kernel_rfl) (fun _ _ _ h => h) (Or.inl ⟨by kernel_rfl, by (intro W hS; have y := hS.2.1; have yl := cell_lt y; have y1 := hS.2.2.1; have y2 := hS.2.2.2; go_simp; first | done | with_reducible rfl | rfl)⟩) hS0 ?_
          (try simp only [Act.put, List.getElem_toArray, List.getElem_cons_zero, List.getElem_cons_succ, List.setIfInBounds_toArray, List.set_cons_zero, List.set_cons_succ])
          have x0 := HTa.out.box.cell 4
          have xl := HTa.out.box.lt
          refine wpAnyH_ready (rs := [1, 8]) (by kernel_rfl) (by simp) ?_
          refine AllReadyH.cons rfl (fun K hK => ?_) ?_
          · skip
            go_simp
            refine hK.out _ _ hS0 (fun hHeld => ?_)
            clear hK K hHeld
            refine wpAnyH_ready (rs := [8]) (by kernel_rfl) (by simp) ?_
            refine AllReadyH.cons rfl (fun K hK => ?_) AllReadyH.nil
            go_simp
            go_at_call 54
            refine (HKC.out w6 HOY.out HDa.out.gr.size HDa.out.rd).mono ?_
            rintro e w7 ⟨t, us7, fq7, k7, rfl, ho7, hn7, hb7, hk7, hr7, hg7⟩
            obtain ⟨E1, e1, E2, e2, g1, g2, rfl, x0_, x1_, x2_, x3_, x4_, efq⟩ := ho7.oTree
            have hS1 : w7.cell? ⟨w.heap.size, 2, none⟩ = some (.slice (some ⟨gk, off, none⟩) ks.length c2) ∧ w7.cell? ⟨gk, off + j * 3, none⟩ = some q0 ∧ w7.cell? ⟨gk, off + j * 3 + 1, none⟩ = some q1 ∧ w7.cell? ⟨gk, off + j * 3 + 2, none⟩ = some q2 := ⟨cell_grD hg7 (hS0.1) (by omega), cell_grD hg7 (hS0.2.1) hgkg, cell_grD hg7 (hS0.2.2.1) hgkg, cell_grD hg7 (hS0.2.2.2) hgkg⟩
            have HDb := hide (HDa.out.tick hg7 hr7)
            have HTb := hide (HTa.out.farR hg7 (by omega))
            have HO7 := hide ho7
            have HN7 := hide (hn7.mono (show w.heap.size + 1 + 1 + 1 ≤ w6.heap.size from HTa.out.box.lt))
            have HN7w := hide hn7.lt
            have HN7r := hide hn7
            have HN7f := hide hn7.fr
            have HLT7 := hide (show w6.heap.size ≤ w7.heap.size from hg7.size)
            have y0 := HTb.out.box.cell 4
            have yl := HTb.out.box.lt
            clear ho7 hn7 hr7 x3_ x4_ efq
            try go_simp
            refine hK.out _ _ hS1 (fun hHeld => ?_)
            clear hK K hHeld hg7
            refine wpAnyH_ready (rs := [9]) (by kernel_rfl) (by simp) ?_
            refine AllReadyH.cons rfl (fun K hK => ?_) AllReadyH.nil
            have hq1 : Below w7.heap.size w7 (w7.alloc (.cells #[.int .i64 t.sort, .int .i64 t.num, .string t.text, .slice E1 t.names.length e1, .slice E2 t.kids.length e2] 26)) := (Below.refl _ _).alloc (Nat.le_refl _) _
            have hS2 : (w7.alloc (.cells #[.int .i64 t.sort, .int .i64 t.num, .string t.text, .slice E1 t.names.length e1, .slice E2 t.kids.length e2] 26)).cell? ⟨w.heap.size, 2, none⟩ = some (.slice (some ⟨gk, off, none⟩) ks.length c2) ∧ (w7.alloc (.cells #[.int .i64 t.sort, .int .i64 t.num, .string t.text, .slice E1 t.names.length e1, .slice E2 t.kids.length e2] 26)).cell? ⟨gk, off + j * 3, none⟩ = some q0 ∧ (w7.alloc (.cells #[.int .i64 t.sort, .int .i64 t.num, .string t.text, .slice E1 t.names.length e1, .slice E2 t.kids.length e2] 26)).cell? ⟨gk, off + j * 3 + 1, none⟩ = some q1 ∧ (w7.alloc (.cells #[.int .i64 t.sort, .int .i64 t.num, .string t.text, .slice E1 t.names.length e1, .slice E2 t.kids.length e2] 26)).cell? ⟨gk, off + j * 3 + 2, none⟩ = some q2 := ⟨(hq1.cell (cell_lt (hS1.1))).trans (hS1.1), (hq1.cell (cell_lt (hS1.2.1))).trans (hS1.2.1), (hq1.cell (cell_lt (hS1.2.2.1))).trans (hS1.2.2.1), (hq1.cell (cell_lt (hS1.2.2.2))).trans (hS1.2.2.2)⟩
            have HTc := hide (HTb.out.alloc (.cells #[.int .i64 t.sort, .int .i64 t.num, .string t.text, .slice E1 t.names.length e1, .slice E2 t.kids.length e2] 26))
            have hszc : w.heap.size + 1 + 1 + 1 ≤ (w7.alloc (.cells #[.int .i64 t.sort, .int .i64 t.num, .string t.text, .slice E1 t.names.length e1, .slice E2 t.kids.length e2] 26)).heap.size := by have := HTb.out.box.lt; rw [World.size_alloc]; omega
            have HO7c := hide (HO7.out.alloc HN7w.out (.cells #[.int .i64 t.sort, .int .i64 t.num, .string t.text, .slice E1 t.names.length e1, .slice E2 t.kids.length e2] 26))
            have HN7c := hide (HN7.out.alloc (.cells #[.int .i64 t.sort, .int .i64 t.num, .string t.text, .slice E1 t.names.length e1, .slice E2 t.kids.length e2] 26))
            have HN7s := hide (show New (w7.alloc (.cells #[.int .i64 t.sort, .int .i64 t.num, .string t.text, .slice E1 t.names.length e1, .slice E2 t.kids.length e2] 26)) fq7 w6.heap.size from HN7r.out.alloc _)
            go_simp
            refine hK.out _ _ hS2 (fun hHeld => ?_)
            clear hK K hHeld
            refine wpAnyH_ready (rs := [10]) (by kernel_rfl) (by simp) ?_
            refine AllReadyH.cons rfl (fun K hK => ?_) AllReadyH.nil
            refine step_app (by rfl) _ _ 24 (by rfl) ib _ 80 Tryz.underlying24 HIb.out hb0 hb1 hb2 rfl (by decide) Tree.cells_len (by rfl) HTc.out.two [t] (by rw [List.flatMap_singleton]; exact HO7c.out) (New.app HTc.out.two.new HN7s.out (fun g hg => HTa.out.two.new.lt g hg) (by exact HTa.out.box.lt)) (fun g e hm => by (have k1 := HTa.out.two.lt g e); (have k2 := (HN7f.out g hm).1); exact absurd k1 (Nat.not_lt.2 k2)) _ 1 1 (by rfl) rfl (SrcAt.new w7 _ _ _ _) (by omega) (by decide) hszc ?_
            intro A8 n8 c8 w8 hn8 hown8 hgb8
            clear hn8
            have r8 := HTc.out.row2 hgb8
            have x8 := r8.cell 4
            have f8 := r8.frozen 4
            have l8 := r8.lt
            have hS3 : w8.cell? ⟨w.heap.size, 2, none⟩ = some (.slice (some ⟨gk, off, none⟩) ks.length c2) ∧ w8.cell? ⟨gk, off + j * 3, none⟩ = some q0 ∧ w8.cell? ⟨gk, off + j * 3 + 1, none⟩ = some q1 ∧ w8.cell? ⟨gk, off + j * 3 + 2, none⟩ = some q2 := ⟨cell_gbD hgb8 (hS2.1) (HTc.out.two.low (by omega)), cell_gbD hgb8 (hS2.2.1) (HTc.out.two.low (by omega)), cell_gbD hgb8 (hS2.2.2.1) (HTc.out.two.low (by omega)), cell_gbD hgb8 (hS2.2.2.2) (HTc.out.two.low (by omega))⟩
            have hS4 : (w8.setCell ⟨w.heap.size + 1 + 1, 4, none⟩ (.slice A8 n8 c8)).cell? ⟨w.heap.size, 2, none⟩ = some (.slice (some ⟨gk, off, none⟩) ks.length c2) ∧ (w8.setCell ⟨w.heap.size + 1 + 1, 4, none⟩ (.slice A8 n8 c8)).cell? ⟨gk, off + j * 3, none⟩ = some q0 ∧ (w8.setCell ⟨w.heap.size + 1 + 1, 4, none⟩ (.slice A8 n8 c8)).cell? ⟨gk, off + j * 3 + 1, none⟩ = some q1 ∧ (w8.setCell ⟨w.heap.size + 1 + 1, 4, none⟩ (.slice A8 n8 c8)).cell? ⟨gk, off + j * 3 + 2, none⟩ = some q2 := ⟨cell_setD (hS3.1) (by omega), cell_setD (hS3.2.1) (by omega), cell_setD (hS3.2.2.1) (by omega), cell_setD (hS3.2.2.2) (by omega)⟩
            have HTz := hide (show TreeAtR (w8.setCell ⟨w.heap.size + 1 + 1, 4, none⟩ (.slice A8 n8 c8)) (w.heap.size + 1 + 1) _ (.slice C1 m1 e1_) (ns.take j ++ [x]) us1' (.slice A8 n8 c8) (ts ++ [t]) (us2 ++ [.int .i64 t.sort, .int .i64 t.num, .string t.text, .slice E1 t.names.length e1, .slice E2 t.kids.length e2]) (fi2 ++ fq7) from HTc.out.put2 hgb8 hown8 4 rfl (fun g hg => by
                rcases List.mem_append.1 hg with hg | hg
                · exact .inl hg
                · exact .inr ⟨fun e => absurd (HTa.out.one.lt g e) (Nat.not_lt.2 (HN7f.out g hg).1), fun h => by cases h⟩))
            have HDz := hide (HDb.out.low (B := w.heap.size + 1 + 1) ((hq1.mono (by omega)).trans (HTc.out.frame2 hgb8 hszc 4 (.slice A8 n8 c8) (Nat.le_refl _))) (Nat.le_refl _))
            refine hK.out _ _ hS3 (fun hHeld => ?_)
            clear hK K hHeld
            refine wpAnyH_take (i := 11) (v := .pointer (some ⟨w.heap.size + 1 + 1, 4, none⟩)) rfl (by kernel_rfl) (by kernel_rfl) (by kernel_rfl) (fun _ _ _ h => h) (Or.inl ⟨by kernel_rfl, by (intro W hS; go_simp; first | done | with_reducible rfl | rfl)⟩) hS3 ?_
            (try simp only [Act.put, List.getElem_toArray, List.getElem_cons_zero, List.getElem_cons_succ, List.setIfInBounds_toArray, List.set_cons_zero, List.set_cons_succ])
            refine wpAnyH_ready (rs := [12]) (by kernel_rfl) (by simp) ?_
            refine AllReadyH.cons rfl (fun K hK => ?_) AllReadyH.nil
            go_simp
            refine hK.out _ _ hS4 (fun hHeld => ?_)
            clear hK K hHeld hS0 hS2 hS3 hS4 x8 f8 l8 r8 hown8 hgb8 hq1
            refine wpAnyH_done (by kernel_rfl) ?_ _
            generalize (World.setCell _ _ _) = wz at HTz HDz ⊢
            clear HTa HDa HTc HTb HDb HO7 HN7 HN7w HN7f HN7r HO7c HN7c HN7s HOY HKC
            have hb1 := HBK.out
            have hk1_ := HKX.out
            have hta := HTA.out
            have htl_ := HTL.out
            go_wp2
            go_roundw
            case rel => exact ⟨j + 1, ts ++ [t], _, _, _, _, A8, n8, c8, _, _, k7, by go_num, by rw [HTK.out]; exact HTz.out, HDz.out, hj, by rw [List.length_append, List.length_singleton, htl_], by rw [tbulkS_snoc]; omega, by omega⟩
            case measure => simp [intOf] <;> omega
          · refine AllReadyH.cons rfl (fun K hK => ?_) AllReadyH.nil
            go_simp
            go_at_call 54
            refine (HKC.out w6 HOY.out HDa.out.gr.size HDa.out.rd).mono ?_
            rintro e w7 ⟨t, us7, fq7, k7, rfl, ho7, hn7, hb7, hk7, hr7, hg7⟩
            obtain ⟨E1, e1, E2, e2, g1, g2, rfl, x0_, x1_, x2_, x3_, x4_, efq⟩ := ho7.oTree
            have hS1 : w7.cell? ⟨w.heap.size, 2, none⟩ = some (.slice (some ⟨gk, off, none⟩) ks.length c2) ∧ w7.cell? ⟨gk, off + j * 3, none⟩ = some q0 ∧ w7.cell? ⟨gk, off + j * 3 + 1, none⟩ = some q1 ∧ w7.cell? ⟨gk, off + j * 3 + 2, none⟩ = some q2 := ⟨cell_grD hg7 (hS0.1) (by omega), cell_grD hg7 (hS0.2.1) hgkg, cell_grD hg7 (hS0.2.2.1) hgkg, cell_grD hg7 (hS0.2.2.2) hgkg⟩
            have HDb := hide (HDa.out.tick hg7 hr7)
            have HTb := hide (HTa.out.farR hg7 (by omega))
            have HO7 := hide ho7
            have HN7 := hide (hn7.mono (show w.heap.size + 1 + 1 + 1 ≤ w6.heap.size from HTa.out.box.lt))
            have HN7w := hide hn7.lt
            have HN7r := hide hn7
            have HN7f := hide hn7.fr
            have HLT7 := hide (show w6.heap.size ≤ w7.heap.size from hg7.size)
            have y0 := HTb.out.box.cell 4
            have yl := HTb.out.box.lt
            clear ho7 hn7 hr7 x3_ x4_ efq
            try go_simp
            refine hK.out _ _ hS1 (fun hHeld => ?_)
            clear hK K hHeld hg7
            refine wpAnyH_ready (rs := [1, 9]) (by kernel_rfl) (by simp) ?_
            refine AllReadyH.cons rfl (fun K hK => ?_) ?_
            · skip
              go_simp
              refine hK.out _ _ hS1 (fun hHeld => ?_)
              clear hK K hHeld
              refine wpAnyH_ready (rs := [9]) (by kernel_rfl) (by simp) ?_
              refine AllReadyH.cons rfl (fun K hK => ?_) AllReadyH.nil
              have hq1 : Below w7.heap.size w7 (w7.alloc (.cells #[.int .i64 t.sort, .int .i64 t.num, .string t.text, .slice E1 t.names.length e1, .slice E2 t.kids.length e2] 26)) := (Below.refl _ _).alloc (Nat.le_refl _) _
              have hS2 : (w7.alloc (.cells #[.int .i64 t.sort, .int .i64 t.num, .string t.text, .slice E1 t.names.length e1, .slice E2 t.kids.length e2] 26)).cell? ⟨w.heap.size, 2, none⟩ = some (.slice (some ⟨gk, off, none⟩) ks.length c2) ∧ (w7.alloc (.cells #[.int .i64 t.sort, .int .i64 t.num, .string t.text, .slice E1 t.names.length e1, .slice E2 t.kids.length e2] 26)).cell? ⟨gk, off + j * 3, none⟩ = some q0 ∧ (w7.alloc (.cells #[.int .i64 t.sort, .int .i64 t.num, .string t.text, .slice E1 t.names.length e1, .slice E2 t.kids.length e2] 26)).cell? ⟨gk, off + j * 3 + 1, none⟩ = some q1 ∧ (w7.alloc (.cells #[.int .i64 t.sort, .int .i64 t.num, .string t.text, .slice E1 t.names.length e1, .slice E2 t.kids.length e2] 26)).cell? ⟨gk, off + j * 3 + 2, none⟩ = some q2 := ⟨(hq1.cell (cell_lt (hS1.1))).trans (hS1.1), (hq1.cell (cell_lt (hS1.2.1))).trans (hS1.2.1), (hq1.cell (cell_lt (hS1.2.2.1))).trans (hS1.2.2.1), (hq1.cell (cell_lt (hS1.2.2.2))).trans (hS1.2.2.2)⟩
              have HTc := hide (HTb.out.alloc (.cells #[.int .i64 t.sort, .int .i64 t.num, .string t.text, .slice E1 t.names.length e1, .slice E2 t.kids.length e2] 26))
              have hszc : w.heap.size + 1 + 1 + 1 ≤ (w7.alloc (.cells #[.int .i64 t.sort, .int .i64 t.num, .string t.text, .slice E1 t.names.length e1, .slice E2 t.kids.length e2] 26)).heap.size := by have := HTb.out.box.lt; rw [World.size_alloc]; omega
              have HO7c := hide (HO7.out.alloc HN7w.out (.cells #[.int .i64 t.sort, .int .i64 t.num, .string t.text, .slice E1 t.names.length e1, .slice E2 t.kids.length e2] 26))
              have HN7c := hide (HN7.out.alloc (.cells #[.int .i64 t.sort, .int .i64 t.num, .string t.text, .slice E1 t.names.length e1, .slice E2 t.kids.length e2] 26))
              have HN7s := hide (show New (w7.alloc (.cells #[.int .i64 t.sort, .int .i64 t.num, .string t.text, .slice E1 t.names.length e1, .slice E2 t.kids.length e2] 26)) fq7 w6.heap.size from HN7r.out.alloc _)
              go_simp
              refine hK.out _ _ hS2 (fun hHeld => ?_)
              clear hK K hHeld
              refine wpAnyH_ready (rs := [10]) (by kernel_rfl) (by simp) ?_
              refine AllReadyH.cons rfl (fun K hK => ?_) AllReadyH.nil
              refine step_app (by rfl) _ _ 24 (by rfl) ib _ 80 Tryz.underlying24 HIb.out hb0 hb1 hb2 rfl (by decide) Tree.cells_len (by rfl) HTc.out.two [t] (by rw [List.flatMap_singleton]; exact HO7c.out) (New.app HTc.out.two.new HN7s.out (fun g hg => HTa.out.two.new.lt g hg) (by exact HTa.out.box.lt)) (fun g e hm => by (have k1 := HTa.out.two.lt g e); (have k2 := (HN7f.out g hm).1); exact absurd k1 (Nat.not_lt.2 k2)) _ 1 1 (by rfl) rfl (SrcAt.new w7 _ _ _ _) (by omega) (by decide) hszc ?_
              intro A8 n8 c8 w8 hn8 hown8 hgb8
              clear hn8
              have r8 := HTc.out.row2 hgb8
              have x8 := r8.cell 4
              have f8 := r8.frozen 4
              have l8 := r8.lt
              have hS3 : w8.cell? ⟨w.heap.size, 2, none⟩ = some (.slice (some ⟨gk, off, none⟩) ks.length c2) ∧ w8.cell? ⟨gk, off + j * 3, none⟩ = some q0 ∧ w8.cell? ⟨gk, off + j * 3 + 1, none⟩ = some q1 ∧ w8.cell? ⟨gk, off + j * 3 + 2, none⟩ = some q2 := ⟨cell_gbD hgb8 (hS2.1) (HTc.out.two.low (by omega)), cell_gbD hgb8 (hS2.2.1) (HTc.out.two.low (by omega)), cell_gbD hgb8 (hS2.2.2.1) (HTc.out.two.low (by omega)), cell_gbD hgb8 (hS2.2.2.2) (HTc.out.two.low (by omega))⟩
              have hS4 : (w8.setCell ⟨w.heap.size + 1 + 1, 4, none⟩ (.slice A8 n8 c8)).cell? ⟨w.heap.size, 2, none⟩ = some (.slice (some ⟨gk, off, none⟩) ks.length c2) ∧ (w8.setCell ⟨w.heap.size + 1 + 1, 4, none⟩ (.slice A8 n8 c8)).cell? ⟨gk, off + j * 3, none⟩ = some q0 ∧ (w8.setCell ⟨w.heap.size + 1 + 1, 4, none⟩ (.slice A8 n8 c8)).cell? ⟨gk, off + j * 3 + 1, none⟩ = some q1 ∧ (w8.setCell ⟨w.heap.size + 1 + 1, 4, none⟩ (.slice A8 n8 c8)).cell? ⟨gk, off + j * 3 + 2, none⟩ = some q2 := ⟨cell_setD (hS3.1) (by omega), cell_setD (hS3.2.1) (by omega), cell_setD (hS3.2.2.1) (by omega), cell_setD (hS3.2.2.2) (by omega)⟩
              have HTz := hide (show TreeAtR (w8.setCell ⟨w.heap.size + 1 + 1, 4, none⟩ (.slice A8 n8 c8)) (w.heap.size + 1 + 1) _ (.slice C1 m1 e1_) (ns.take j ++ [x]) us1' (.slice A8 n8 c8) (ts ++ [t]) (us2 ++ [.int .i64 t.sort, .int .i64 t.num, .string t.text, .slice E1 t.names.length e1, .slice E2 t.kids.length e2]) (fi2 ++ fq7) from HTc.out.put2 hgb8 hown8 4 rfl (fun g hg => by
                  rcases List.mem_append.1 hg with hg | hg
                  · exact .inl hg
                  · exact .inr ⟨fun e => absurd (HTa.out.one.lt g e) (Nat.not_lt.2 (HN7f.out g hg).1), fun h => by cases h⟩))
              have HDz := hide (HDb.out.low (B := w.heap.size + 1 + 1) ((hq1.mono (by omega)).trans (HTc.out.frame2 hgb8 hszc 4 (.slice A8 n8 c8) (Nat.le_refl _))) (Nat.le_refl _))
              refine hK.out _ _ hS3 (fun hHeld => ?_)
              clear hK K hHeld
              refine wpAnyH_take (i := 11) (v := .pointer (some ⟨w.heap.size + 1 + 1, 4, none⟩)) rfl (by kernel_rfl) (by kernel_rfl) (by kernel_rfl) (fun _ _ _ h => h) (Or.inl ⟨by kernel_rfl, by (intro W hS; go_simp; first | done | with_reducible rfl | rfl)⟩) hS3 ?_
              (try simp only [Act.put, List.getElem_toArray, List.getElem_cons_zero, List.getElem_cons_succ, List.setIfInBounds_toArray, List.set_cons_zero, List.set_cons_succ])
              refine wpAnyH_ready (rs := [12]) (by kernel_rfl) (by simp) ?_
              refine AllReadyH.cons rfl (fun K hK => ?_) AllReadyH.nil
              go_simp
              refine hK.out _ _ hS4 (fun hHeld => ?_)
              clear hK K hHeld hS0 hS2 hS3 hS4 x8 f8 l8 r8 hown8 hgb8 hq1
              refine wpAnyH_done (by kernel_rfl) ?_ _
              generalize (World.setCell _ _ _) = wz at HTz HDz ⊢
              clear HTa HDa HTc HTb HDb HO7 HN7 HN7w HN7f HN7r HO7c HN7c HN7s HOY HKC
              have hb1 := HBK.out
              have hk1_ := HKX.out
              have hta := HTA.out
              have htl_ := HTL.out
              go_wp2
              go_roundw
              case rel => exact ⟨j + 1, ts ++ [t], _, _, _, _, A8, n8, c8, _, _, k7, by go_num, by rw [HTK.out]; exact HTz.out, HDz.out, hj, by rw [List.length_append, List.length_singleton, htl_], by rw [tbulkS_snoc]; omega, by omega⟩
              case measure => simp [intOf] <;> omega
            · refine AllReadyH.cons rfl (fun K hK => ?_) AllReadyH.nil
              have hq1 : Below w7.heap.size w7 (w7.alloc (.cells #[.int .i64 t.sort, .int .i64 t.num, .string t.text, .slice E1 t.names.length e1, .slice E2 t.kids.length e2] 26)) := (Below.refl _ _).alloc (Nat.le_refl _) _
              have hS2 : (w7.alloc (.cells #[.int .i64 t.sort, .int .i64 t.num, .string t.text, .slice E1 t.names.length e1, .slice E2 t.kids.length e2] 26)).cell? ⟨w.heap.size, 2, none⟩ = some (.slice (some ⟨gk, off, none⟩) ks.length c2) ∧ (w7.alloc (.cells #[.int .i64 t.sort, .int .i64 t.num, .string t.text, .slice E1 t.names.length e1, .slice E2 t.kids.length e2] 26)).cell? ⟨gk, off + j * 3, none⟩ = some q0 ∧ (w7.alloc (.cells #[.int .i64 t.sort, .int .i64 t.num, .string t.text, .slice E1 t.names.length e1, .slice E2 t.kids.length e2] 26)).cell? ⟨gk, off + j * 3 + 1, none⟩ = some q1 ∧ (w7.alloc (.cells #[.int .i64 t.sort, .int .i64 t.num, .string t.text, .slice E1 t.names.length e1, .slice E2 t.kids.length e2] 26)).cell? ⟨gk, off + j * 3 + 2, none⟩ = some q2 := ⟨(hq1.cell (cell_lt (hS1.1))).trans (hS1.1), (hq1.cell (cell_lt (hS1.2.1))).trans (hS1.2.1), (hq1.cell (cell_lt (hS1.2.2.1))).trans (hS1.2.2.1), (hq1.cell (cell_lt (hS1.2.2.2))).trans (hS1.2.2.2)⟩
              have HTc := hide (HTb.out.alloc (.cells #[.int .i64 t.sort, .int .i64 t.num, .string t.text, .slice E1 t.names.length e1, .slice E2 t.kids.length e2] 26))
              have hszc : w.heap.size + 1 + 1 + 1 ≤ (w7.alloc (.cells #[.int .i64 t.sort, .int .i64 t.num, .string t.text, .slice E1 t.names.length e1, .slice E2 t.kids.length e2] 26)).heap.size := by have := HTb.out.box.lt; rw [World.size_alloc]; omega
              have HO7c := hide (HO7.out.alloc HN7w.out (.cells #[.int .i64 t.sort, .int .i64 t.num, .string t.text, .slice E1 t.names.length e1, .slice E2 t.kids.length e2] 26))
              have HN7c := hide (HN7.out.alloc (.cells #[.int .i64 t.sort, .int .i64 t.num, .string t.text, .slice E1 t.names.length e1, .slice E2 t.kids.length e2] 26))
              have HN7s := hide (show New (w7.alloc (.cells #[.int .i64 t.sort, .int .i64 t.num, .string t.text, .slice E1 t.names.length e1, .slice E2 t.kids.length e2] 26)) fq7 w6.heap.size from HN7r.out.alloc _)
              go_simp
              refine hK.out _ _ hS2 (fun hHeld => ?_)
              clear hK K hHeld
              have u0 := HTc.out.box.cell 4
              have ul := HTc.out.box.lt
              refine wpAnyH_ready (rs := [1]) (by kernel_rfl) (by simp) ?_
              refine AllReadyH.cons rfl (fun K hK => ?_) AllReadyH.nil
              go_simp
              refine hK.out _ _ hS2 (fun hHeld => ?_)
              clear hK K hHeld
              clear u0 ul
              refine wpAnyH_ready (rs := [10]) (by kernel_rfl) (by simp) ?_
              refine AllReadyH.cons rfl (fun K hK => ?_) AllReadyH.nil
              refine step_app (by rfl) _ _ 24 (by rfl) ib _ 80 Tryz.underlying24 HIb.out hb0 hb1 hb2 rfl (by decide) Tree.cells_len (by rfl) HTc.out.two [t] (by rw [List.flatMap_singleton]; exact HO7c.out) (New.app HTc.out.two.new HN7s.out (fun g hg => HTa.out.two.new.lt g hg) (by exact HTa.out.box.lt)) (fun g e hm => by (have k1 := HTa.out.two.lt g e); (have k2 := (HN7f.out g hm).1); exact absurd k1 (Nat.not_lt.2 k2)) _ 1 1 (by rfl) rfl (SrcAt.new w7 _ _ _ _) (by omega) (by decide) hszc ?_
              intro A8 n8 c8 w8 hn8 hown8 hgb8
              clear hn8
              have r8 := HTc.out.row2 hgb8
              have x8 := r8.cell 4
              have f8 := r8.frozen 4
              have l8 := r8.lt
              have hS3 : w8.cell? ⟨w.heap.size, 2, none⟩ = some (.slice (some ⟨gk, off, none⟩) ks.length c2) ∧ w8.cell? ⟨gk, off + j * 3, none⟩ = some q0 ∧ w8.cell? ⟨gk, off + j * 3 + 1, none⟩ = some q1 ∧ w8.cell? ⟨gk, off + j * 3 + 2, none⟩ = some q2 := ⟨cell_gbD hgb8 (hS2.1) (HTc.out.two.low (by omega)), cell_gbD hgb8 (hS2.2.1) (HTc.out.two.low (by omega)), cell_gbD hgb8 (hS2.2.2.1) (HTc.out.two.low (by omega)), cell_gbD hgb8 (hS2.2.2.2) (HTc.out.two.low (by omega))⟩
              have hS4 : (w8.setCell ⟨w.heap.size + 1 + 1, 4, none⟩ (.slice A8 n8 c8)).cell? ⟨w.heap.size, 2, none⟩ = some (.slice (some ⟨gk, off, none⟩) ks.length c2) ∧ (w8.setCell ⟨w.heap.size + 1 + 1, 4, none⟩ (.slice A8 n8 c8)).cell? ⟨gk, off + j * 3, none⟩ = some q0 ∧ (w8.setCell ⟨w.heap.size + 1 + 1, 4, none⟩ (.slice A8 n8 c8)).cell? ⟨gk, off + j * 3 + 1, none⟩ = some q1 ∧ (w8.setCell ⟨w.heap.size + 1 + 1, 4, none⟩ (.slice A8 n8 c8)).cell? ⟨gk, off + j * 3 + 2, none⟩ = some q2 := ⟨cell_setD (hS3.1) (by omega), cell_setD (hS3.2.1) (by omega), cell_setD (hS3.2.2.1) (by omega), cell_setD (hS3.2.2.2) (by omega)⟩
              have HTz := hide (show TreeAtR (w8.setCell ⟨w.heap.size + 1 + 1, 4, none⟩ (.slice A8 n8 c8)) (w.heap.size + 1 + 1) _ (.slice C1 m1 e1_) (ns.take j ++ [x]) us1' (.slice A8 n8 c8) (ts ++ [t]) (us2 ++ [.int .i64 t.sort, .int .i64 t.num, .string t.text, .slice E1 t.names.length e1, .slice E2 t.kids.length e2]) (fi2 ++ fq7) from HTc.out.put2 hgb8 hown8 4 rfl (fun g hg => by
                  rcases List.mem_append.1 hg with hg | hg
                  · exact .inl hg
                  · exact .inr ⟨fun e => absurd (HTa.out.one.lt g e) (Nat.not_lt.2 (HN7f.out g hg).1), fun h => by cases h⟩))
              have HDz := hide (HDb.out.low (B := w.heap.size + 1 + 1) ((hq1.mono (by omega)).trans (HTc.out.frame2 hgb8 hszc 4 (.slice A8 n8 c8) (Nat.le_refl _))) (Nat.le_refl _))
              refine hK.out _ _ hS3 (fun hHeld => ?_)
              clear hK K hHeld
              refine wpAnyH_take (i := 11) (v := .pointer (some ⟨w.heap.size + 1 + 1, 4, none⟩)) rfl (by kernel_rfl) (by kernel_rfl) (by kernel_rfl) (fun _ _ _ h => h) (Or.inl ⟨by kernel_rfl, by (intro W hS; go_simp; first | done | with_reducible rfl | rfl)⟩) hS3 ?_
              (try simp only [Act.put, List.getElem_toArray, List.getElem_cons_zero, List.getElem_cons_succ, List.setIfInBounds_toArray, List.set_cons_zero, List.set_cons_succ])
              refine wpAnyH_ready (rs := [12]) (by kernel_rfl) (by simp) ?_
              refine AllReadyH.cons rfl (fun K hK => ?_) AllReadyH.nil
              go_simp
              refine hK.out _ _ hS4 (fun hHeld => ?_)
              clear hK K hHeld hS0 hS2 hS3 hS4 x8 f8 l8 r8 hown8 hgb8 hq1
              refine wpAnyH_done (by kernel_rfl) ?_ _
              generalize (World.setCell _ _ _) = wz at HTz HDz ⊢
              clear HTa HDa HTc HTb HDb HO7 HN7 HN7w HN7f HN7r HO7c HN7c HN7s HOY HKC
              have hb1 := HBK.out
              have hk1_ := HKX.out
              have hta := HTA.out
              have htl_ := HTL.out
              go_wp2
              go_roundw
              case rel => exact ⟨j + 1, ts ++ [t], _, _, _, _, A8, n8, c8, _, _, k7, by go_num, by rw [HTK.out]; exact HTz.out, HDz.out, hj, by rw [List.length_append, List.length_singleton, htl_], by rw [tbulkS_snoc]; omega, by omega⟩
              case measure => simp [intOf] <;> omega
theorem dTree_any (x : Kind) : DTree x := Kind.ind (fun k ih => by
  obtain ⟨s, ns, ks⟩ := k
  exact dTree_of s ns ks ih) x
end Go.Proofs.YtnaecdoeldoipaaGreatDoor
set_option linter.unusedVariables false
set_option linter.unusedSimpArgs false
namespace Go.Proofs.YtnaecdoeldoipaaGreatDoor
open Go.ChangeShapes Go.WideShapes Go.ChangeAt Go.RowKit

end Go.Proofs.YtnaecdoeldoipaaGreatDoor
set_option linter.unusedVariables false
set_option linter.unusedSimpArgs false
namespace Go.Proofs.YtnaecdoeldoipaaGreatDoor
open Go.ChangeShapes Go.WideShapes Go.ChangeAt Go.RowKit

theorem Calls.some_endV {P : Program} {f : FuncId} {args : Array Value} {w : World} {R : Ending → World → Prop} (h : Calls P f args w R) : ∃ e w', R e w' := by
  obtain ⟨e, w', _, hr, _⟩ := h []
  exact ⟨e, w', hr⟩
/-- the reader's contract says so, in any world -/
theorem Tree.wr_injV (w : World) {a b : Tree} (ha : a.ok) (hb : b.ok) (h : a.wr = b.wr) : a = b := by
  have hs := tok_size ha
  have hR : RdK (w.alloc (.cells [.string a.wr, .int .i64 0, .bool false].toArray 75)) w.heap.size a.wr 0 (bl a.wr) false :=
    ⟨0, Row.new w _ _, by omega, by omega, fun _ => by omega, rfl⟩
  obtain ⟨e, w', k, us, fq, l', b', _, _, _, _, _, _, ht, _⟩ := Calls.some_endV (treeRdS_any 6 a.wr (bl a.wr) false w.heap.size 1 _ (by omega) (by omega) hR)
  have h1 := ht a [] ha.1 Ender.nil rfl (by rw [List.append_nil])
  have h2 := ht b [] hb.1 Ender.nil rfl (by rw [h, List.append_nil])
  exact h1.1.symm.trans h2.1
/-- what is written is read back -/
theorem treeRead_wr (w : World) {k : Tree} (h : k.ok) : treeRead k.wr = k ∧ treeReadB k.wr = true := by
  have h3 : readT k.wr = some k := by
    cases hr : readT k.wr with
    | none => exact absurd rfl (readT_none hr k h)
    | some q =>
      obtain ⟨a1, a2⟩ := readT_some hr
      rw [Tree.wr_injV w a1 h a2]
  unfold treeRead treeReadB
  rw [h3]
  exact ⟨rfl, rfl⟩
end Go.Proofs.YtnaecdoeldoipaaGreatDoor
