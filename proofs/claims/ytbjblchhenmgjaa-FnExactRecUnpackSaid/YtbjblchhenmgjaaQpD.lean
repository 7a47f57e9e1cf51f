/-
  Trees that are ok: what the reference's l1Parts answers. Slices that a call makes by append: what they hold, what an append does to them, and that they read as data. Slices of bytes that a call makes by append: what they hold, and what appends do to them.
-/
import Derived.Test.YtbjblchhenmgjaaQpC
import Derived.Test.YtbjblchhenmgjaaQpA
import Derived.Maps.AppendAt
import Derived.Lib.AppendStr
import Derived.Lib.ConvBytes
import Derived.Laws.IdiomStrings
set_option linter.unusedVariables false
set_option linter.unusedSimpArgs false
namespace Go.Proofs.Ytbjblchhenmgjaa
open Go.ChangeShapes Go.WideShapes Go.ChangeAt Go.RowKit

noncomputable def Tree.partsR (k : Tree) (lv : Nat) : Int := if tb (k.fits lv 0) = true then k.parts else -1
theorem Tree.partsR_yes {k : Tree} {lv : Nat} (h : k.fits lv 0) : k.partsR lv = k.parts := by unfold Tree.partsR; rw [tb_true h, if_pos rfl]
theorem Tree.partsR_no {k : Tree} {lv : Nat} (h : ¬ k.fits lv 0) : k.partsR lv = -1 := by unfold Tree.partsR; rw [tb_false h]; rfl

def PartsTree (k : Tree) : Prop := ∀ (us : List Value) (fp : List Nat) (lv : Nat) (z : Int) (w : World), z = lv → OwC w k.cells us fp → Lt fp w.heap.size → k.bulk ≤ 1048576 → 1 ≤ lv → lv ≤ 7 →
  Calls Try.prog 218 #[.agg us.toArray, .int .i64 z] w fun e w' => e = .returned (.int .i64 (k.partsR lv)) ∧ Below w.heap.size w w'

set_option maxRecDepth 100000 in
set_option maxHeartbeats 400000 in
theorem partsTree_of (k : Tree) (ih : ∀ x ∈ k.kids, PartsTree x) : PartsTree k := by
  intro us fp lv z w hz ho hf hbk hl0 hl1
  have ho' := ho
  obtain ⟨A1, c1, A2, c2, f1, f2, rfl, w0, wn, wt, o1, o2, rfl⟩ := ho.oTree
  subst hz
  have hkb := k.bulk_eq; unfold bulkStrs at hkb
  have hkl : k.kids.length ≤ 1048576 := by omega
  have HB := hide hkb
  clear hkb
  have hw1 : Below w.heap.size w (w.alloc (.cells #[.int .i64 k.sort, .int .i64 k.num, .string k.text, .slice A1 k.names.length c1, .slice A2 k.kids.length c2] 26)) := (Below.refl _ _).alloc (Nat.le_refl _) _
  have R1 : Row (w.alloc (.cells #[.int .i64 k.sort, .int .i64 k.num, .string k.text, .slice A1 k.names.length c1, .slice A2 k.kids.length c2] 26)) w.heap.size 26 [.int .i64 k.sort, .int .i64 k.num, .string k.text, .slice A1 k.names.length c1, .slice A2 k.kids.length c2] := Row.new w _ _
  have HO := hide (ho'.below hw1 hf)
  have HO2 := hide o2
  have HI := hide ih
  have HF := hide (fun (h6 : lv ≤ 6) (hs : k.shape) (h1 : Tree.goodS k.kids (lv + 1)) (h2 : 1 + (Tree.partsS k.kids : Int) ≤ 120) => Tree.partsR_yes (k := k) (lv := lv) ⟨(Tree.good_iff _ _).2 ⟨h6, hs, h1⟩, by have := k.parts_eq; omega⟩)
  have HP := hide k.parts_eq
  have HN := hide (fun (h : ¬ (lv ≤ 6 ∧ k.shape ∧ Tree.goodS k.kids (lv + 1) ∧ 1 + (Tree.partsS k.kids : Int) ≤ 120)) => Tree.partsR_no (k := k) (lv := lv) (fun h' => h ⟨((Tree.good_iff _ _).1 h'.1).1, ((Tree.good_iff _ _).1 h'.1).2.1, ((Tree.good_iff _ _).1 h'.1).2.2, by have := h'.2; have := k.parts_eq; omega⟩))
  clear o1 o2 ih ho ho'
  by_cases h6 : lv ≤ 6
  · go_enter Try.func218, Try.ntmps218
    go_wp2_with fail
    refine (l1Alone_any k _ _ _ HO.out (hf.up hw1) hbk).mono ?_
    rintro e w1 ⟨rfl, hb1⟩
    have hB1 := hw1.trans (hb1.mono hw1.size)
    have R2 := R1.below hb1 R1.lt
    have c4 := R2.cell 4
    have hsz : w.heap.size < w1.heap.size := R2.lt
    by_cases hs : k.shape
    · rw [tb_true hs]
      have HFF := hide (HF.out h6 hs)
      have HNN := hide (fun (h : ¬ (Tree.goodS k.kids (lv + 1) ∧ 1 + (Tree.partsS k.kids : Int) ≤ 120)) => HN.out (fun h' => h ⟨h'.2.2.1, h'.2.2.2⟩))
      clear hs
      go_wp2
      go_loopw [5, 6] (fun a i wr => ∃ j : Nat, j ≤ k.kids.length ∧ i = .int .i64 j ∧ a = .int .i64 (1 + (Tree.partsS (k.kids.take j) : Int)) ∧ Tree.goodS (k.kids.take j) (lv + 1) ∧ 1 + (Tree.partsS (k.kids.take j) : Int) ≤ 120 ∧ wr.cell? ⟨w.heap.size, 4, none⟩ = some (.slice A2 k.kids.length c2) ∧ w.heap.size < wr.heap.size ∧ Below w.heap.size w wr) (fun _ i _ => k.kids.length - (intOf i).toNat)
      case atStart => exact ⟨0, Nat.zero_le _, rfl, by simp [Tree.partsS], by simp [Tree.goodS], by simp [Tree.partsS], c4, hsz, hB1⟩
      case round =>
        obtain ⟨j, hj, rfl, rfl, hgood, hle, hcj, hszj, hbj⟩ := hrel
        have HG := hide hgood
        have HR := hide hbj
        clear hgood hbj c4 hsz hB1 hb1 R2
        by_cases hlt : j < k.kids.length
        · obtain ⟨g, off, vs, fi, rfl, hg, hfi, hvl, hcs, hov⟩ := (HO2.out.below HR.out hf.right).elem Tree.cells_len hlt
          have hov' := hov
          obtain ⟨B1, d1, B2, d2, q1, q2, rfl, v0, vn, vt, x1, x2, rfl⟩ := hov.oTree
          have p0 := hcs 0 _ rfl
          have p1 := hcs 1 _ rfl
          have p2 := hcs 2 _ rfl
          have p3 := hcs 3 _ rfl
          have p4 := hcs 4 _ rfl
          simp only [Nat.add_zero] at p0
          have hfq : Lt (q1 ++ q2) wr.heap.size := ((hf.right).up HR.out).sub hfi
          have HC := hide (HI.out _ (List.getElem_mem hlt))
          have hsn := hide (Tree.goodS_snoc k.kids (lv + 1) j hlt)
          have hps := hide (Tree.partsS_snoc k.kids j hlt)
          have hpl' := Tree.partsS_le k.kids (j + 1)
          have hbl : k.kids[j].bulk ≤ 1048576 := by
            have h1 := Tree.bulkS_snoc k.kids j hlt
            have h2 := Tree.bulkS_le k.kids (j + 1)
            have h3 := HB.out
            omega
          have HO := hide hov'
          have hat := hide (fun (h : Tree.goodS k.kids (lv + 1)) => Tree.goodS_at h hlt)
          clear hov hov' x1 x2 hcs
          generalize k.kids[j] = x at *
          generalize Tree.partsS (k.kids.take j) = m at *
          go_wp2_with fail
          refine (HC.out _ _ (lv + 1) _ _ (by omega) HO.out hfq hbl (by omega) (by omega)).mono ?_
          rintro e w2 ⟨rfl, hb2⟩
          have hw3 := HR.out.trans (hb2.mono HR.out.size)
          have hsz3 : w.heap.size < w2.heap.size := Nat.lt_of_lt_of_le hszj hb2.size
          have hcj2 : w2.cell? ⟨w.heap.size, 4, none⟩ = some (.slice (some ⟨g, off, none⟩) k.kids.length c2) := (hb2.cell (p := ⟨w.heap.size, 4, none⟩) hszj).trans hcj
          by_cases hx : x.fits (lv + 1) 0
          · rw [Tree.partsR_yes hx]
            have hx2 : (x.parts : Int) ≤ 120 := by have := hx.2; omega
            have HX := hide hx
            clear hx hcj
            by_cases hsum : 1 + (m : Int) + x.parts ≤ 120
            · go_wp2
              go_roundw
              case rel => exact ⟨j + 1, by omega, by go_num, by rw [hps.out]; go_num, hsn.out.2 ⟨HG.out, HX.out.1⟩, by rw [hps.out]; omega, hcj2, hsz3, hw3⟩
              case measure => simp [intOf]; omega
            · have HT := hide (HNN.out (fun h => hsum (by have := h.2; have := hps.out; omega)))
              go_wp2
              go_ret
              exact ⟨ret_int HT.out.symm, hw3⟩
          · rw [Tree.partsR_no hx]
            have HT := hide (HNN.out (fun h => hx ⟨hat.out h.1, by have := h.2; have := hps.out; omega⟩))
            clear hx
            go_wp2
            go_ret
            exact ⟨ret_int HT.out.symm, hw3⟩
        · obtain rfl : j = k.kids.length := by omega
          rw [List.take_length] at *
          have HT := hide (HFF.out HG.out hle)
          go_wp2
          go_ret
          exact ⟨ret_int (by rw [HT.out, HP.out]; go_num), HR.out⟩
    · rw [tb_false hs]
      have HT := hide (HN.out (fun h => hs h.2.1))
      clear hs
      go_wp2
      go_ret
      exact ⟨ret_int HT.out.symm, hB1⟩
  · have HT := hide (HN.out (fun h => h6 h.1))
    go_enter Try.func218, Try.ntmps218
    go_wp2
    go_ret
    exact ⟨ret_int HT.out.symm, hw1⟩

theorem partsTree_any (k : Tree) : PartsTree k := Tree.ind partsTree_of k

def Tree.ok (k : Tree) : Prop := k.fits 1 0
noncomputable def Tree.count (k : Tree) : Int := if tb k.ok = true then k.parts else 0
theorem Tree.count_yes {k : Tree} (h : k.ok) : k.count = k.parts := by unfold Tree.count; rw [tb_true h, if_pos rfl]
theorem Tree.count_no {k : Tree} (h : ¬ k.ok) : k.count = 0 := by unfold Tree.count; rw [tb_false h]; rfl

set_option maxRecDepth 100000 in
theorem implTreeParts_any (k : Tree) (us : List Value) (fp : List Nat) (w : World) (ho : OwC w k.cells us fp) (hf : Lt fp w.heap.size) (hbk : k.bulk ≤ 1048576) :
    Calls Try.prog 49 #[.agg us.toArray] w fun e w' => e = .returned (.int .i64 k.count) ∧ Below w.heap.size w w' := by
  have ho' := ho
  obtain ⟨A1, c1, A2, c2, f1, f2, rfl, w0, wn, wt, o1, o2, rfl⟩ := ho.oTree
  have hw1 : Below w.heap.size w ((w.alloc (.cells #[.int .i64 k.sort, .int .i64 k.num, .string k.text, .slice A1 k.names.length c1, .slice A2 k.kids.length c2] 26)).alloc (.cells #[.int .i64 0] 3)) := ((Below.refl _ _).alloc (Nat.le_refl _) _).alloc (by simp) _
  have HO := hide (ho'.below hw1 hf)
  have hf2 := (hf.mono hw1.size)
  have hnm : w.heap.size + 1 ∉ f1 ++ f2 := hf.not_mem (by omega)
  clear ho ho' o1 o2
  go_enter Try.func49, Try.ntmps49
  go_wp2_with fail
  refine (lookTree_any k _ _ 1 _ 0 _ _ (by omega) HO.out hf2 hbk (by omega) (by omega) (by omega) (by omega) (by go_simp) (by go_simp) hnm).mono ?_
  rintro e w2 ⟨rfl, _, hcell, hg⟩
  have hb : Below w.heap.size w w2 := ⟨hg.os.trans hw1.os, hg.tape.trans hw1.tape, hg.output.trans hw1.output, Nat.le_trans hw1.size hg.size, fun i hi => (hg.block i (by simp; omega) (fun e => by injection e with e; omega)).trans (hw1.block i hi)⟩
  by_cases h : k.ok
  · have hc := hcell h
    have HT := hide (Tree.count_yes h)
    rw [show tb (k.fits 1 0) = true from tb_true h]
    clear hcell h
    go_wp2
    go_ret
    exact ⟨ret_int (by rw [HT.out]; try go_num), hb⟩
  · have HT := hide (Tree.count_no h)
    rw [show tb (k.fits 1 0) = false from tb_false h]
    clear hcell h
    go_wp2
    go_ret
    exact ⟨ret_int HT.out.symm, hb⟩

set_option maxRecDepth 100000 in
theorem implTreeOk_any (k : Tree) (us : List Value) (fp : List Nat) (w : World) (ho : OwC w k.cells us fp) (hf : Lt fp w.heap.size) (hbk : k.bulk ≤ 1048576) :
    Calls Try.prog 118 #[.agg us.toArray] w fun e w' => e = .returned (.bool (tb k.ok)) ∧ Below w.heap.size w w' := by
  have ho' := ho
  obtain ⟨A1, c1, A2, c2, f1, f2, rfl, w0, wn, wt, o1, o2, rfl⟩ := ho.oTree
  have hw1 : Below w.heap.size w (w.alloc (.cells #[.int .i64 k.sort, .int .i64 k.num, .string k.text, .slice A1 k.names.length c1, .slice A2 k.kids.length c2] 26)) := (Below.refl _ _).alloc (Nat.le_refl _) _
  have HO := hide (ho'.below hw1 hf)
  have hf2 := (hf.mono hw1.size)
  clear ho ho' o1 o2
  go_enter Try.func118, Try.ntmps118
  go_wp2_with fail
  refine (implTreeParts_any k _ _ _ HO.out hf2 hbk).mono ?_
  rintro e w2 ⟨rfl, hb⟩
  have hb' := hw1.trans (hb.mono hw1.size)
  by_cases h : k.ok
  · rw [Tree.count_yes h]
    have HT := hide (tb_true h)
    have hp := k.parts_eq
    have h1 : (0 : Int) < k.parts := by omega
    clear h hp
    go_wp2
    go_ret
    exact ⟨ret_bool (by rw [HT.out]; simpa using h1), hb'⟩
  · rw [Tree.count_no h]
    have HT := hide (tb_false h)
    clear h
    go_wp2
    go_ret
    exact ⟨ret_bool HT.out.symm, hb'⟩
set_option maxRecDepth 100000 in
theorem specTreeOk_any (k : Tree) (us : List Value) (fp : List Nat) (w : World) (ho : OwC w k.cells us fp) (hf : Lt fp w.heap.size) (hbk : k.bulk ≤ 1048576) :
    Calls Try.prog 162 #[.agg us.toArray] w fun e w' => e = .returned (.bool (tb k.ok)) ∧ Below w.heap.size w w' := by
  have ho' := ho
  obtain ⟨A1, c1, A2, c2, f1, f2, rfl, w0, wn, wt, o1, o2, rfl⟩ := ho.oTree
  have hw1 : Below w.heap.size w (w.alloc (.cells #[.int .i64 k.sort, .int .i64 k.num, .string k.text, .slice A1 k.names.length c1, .slice A2 k.kids.length c2] 26)) := (Below.refl _ _).alloc (Nat.le_refl _) _
  have HO := hide (ho'.below hw1 hf)
  have hf2 := (hf.mono hw1.size)
  clear ho ho' o1 o2
  go_enter Try.func162, Try.ntmps162
  go_wp2_with fail
  refine (partsTree_any k _ _ 1 _ _ (by omega) HO.out hf2 hbk (by omega) (by omega)).mono ?_
  rintro e w2 ⟨rfl, hb⟩
  have hb' := hw1.trans (hb.mono hw1.size)
  by_cases h : k.ok
  · rw [Tree.partsR_yes h]
    have HT := hide (tb_true h)
    have hp := k.parts_eq
    have h1 : (0 : Int) < k.parts := by omega
    have h2 : (k.parts : Int) ≤ 120 := by have := h.2; omega
    clear hp h
    go_wp2
    go_ret
    exact ⟨ret_bool (by rw [HT.out]; simpa using h1), hb'⟩
  · rw [Tree.partsR_no h]
    have HT := hide (tb_false h)
    clear h
    go_wp2
    go_ret
    exact ⟨ret_bool HT.out.symm, hb'⟩
end Go.Proofs.Ytbjblchhenmgjaa
namespace Go.Proofs.Ytbjblchhenmgjaa
open Go.ChangeShapes Go.WideShapes Go.ChangeAt Go.RowKit

/-- A slice of the call's own, from B on: its elements' cells us read as l; the blocks fi that they pass through are the call's own too. -/
structure OwS {α : Type} (w : World) (B : Nat) (e : TypeId) (k : Nat) (f : α → List D) (v : Value) (l : List α) (us : List Value) (fi : List Nat) : Prop where
  own : w.ownsRow B e k v l.length us
  cells : OwC w (l.flatMap f) us fi
  new : New w fi B
  out : ∀ g, v.ownBlock = some g → g ∉ fi

section
variable {α : Type} {w w' : World} {B : Nat} {e : TypeId} {k : Nat} {f : α → List D} {v v' : Value} {l : List α} {us : List Value} {fi : List Nat}

theorem New.grown {fp : List Nat} {lo : Nat} {r : Option Nat} (h : New w fp lo) (hg : w.grownBy w' r) (hr : ∀ g, r = some g → g ∉ fp) : New w' fp lo :=
  ⟨h.fr.mono (Nat.le_refl _) hg.size, h.nd, fun g hm => (h.uf g hm).same (hg.block g (h.lt g hm) (fun e => hr g e.symm hm))⟩
theorem OwC.grown' {ds : List D} {us : List Value} {fp : List Nat} {r : Option Nat} (h : OwC w ds us fp) (hg : w.grownBy w' r) (hl : Lt fp w.heap.size) (hr : ∀ g, r = some g → g ∉ fp) : OwC w' ds us fp :=
  OwC.frame ds (fun g hm => hg.block g (hl g hm) (fun e => hr g e.symm hm)) h

theorem OwS.nil (w : World) (B : Nat) (e : TypeId) (k : Nat) (f : α → List D) : OwS w B e k f (.slice none 0 0) [] [] [] :=
  ⟨World.ownsRow_nil _ _ _ _, by simp [OwC], New.nil _ _, fun g h => by simp⟩

theorem OwS.lt (h : OwS w B e k f v l us fi) : ∀ g, v.ownBlock = some g → g < w.heap.size := fun g hg => (h.own.lt g hg).2
theorem OwS.below {C : Nat} (h : OwS w B e k f v l us fi) (hb : Below w.heap.size w w') : OwS w' B e k f v l us fi := by
  refine ⟨?_, h.cells.below hb h.new.lt, h.new.below hb h.new.lt, h.out⟩
  refine ⟨h.own.1, ?_⟩
  rcases h.own.2 with hn | ⟨g, cap, cur, hv, hB, hg, rest⟩
  · exact .inl hn
  · refine .inr ⟨g, cap, cur, hv, hB, ?_, rest⟩
    rw [hb.block g (h.lt g (by rw [hv]; rfl))]
    exact hg
theorem OwS.alloc (h : OwS w B e k f v l us fi) (o : Obj) : OwS (w.alloc o) B e k f v l us fi := h.below (C := 0) ((Below.refl _ _).alloc (Nat.le_refl _) o)
theorem OwS.drewN (h : OwS w B e k f v l us fi) (n : Nat) : OwS (w.drewN n) B e k f v l us fi := ⟨h.own, h.cells.drewN n, h.new.drewN n, h.out⟩

/-- ONE ELEMENT MORE: behind an append. -/
theorem OwS.push (h : OwS w B e k f v l us fi) (x : α) {ux : List Value} {fx : List Nat} (hx : OwC w (f x) ux fx) (hn : New w (fi ++ fx) B) (ho : ∀ g, v.ownBlock = some g → g ∉ fx)
    (hown' : w'.ownsRow B e k v' (l.length + 1) (us ++ ux)) (hg : w.grownBy w' v.ownBlock) (ha : v'.ownBlock = v.ownBlock ∨ v'.ownBlock = some w.heap.size) :
    OwS w' B e k f v' (l ++ [x]) (us ++ ux) (fi ++ fx) := by
  have hr : ∀ g, v.ownBlock = some g → g ∉ fi ++ fx := fun g hg hm => by
    rcases List.mem_append.1 hm with hm | hm
    · exact h.out g hg hm
    · exact ho g hg hm
  have hc : OwC w ((l ++ [x]).flatMap f) (us ++ ux) (fi ++ fx) := by
    rw [List.flatMap_append, List.flatMap_singleton]
    exact h.cells.append hx
  refine ⟨by rw [List.length_append]; exact hown', hc.grown' hg hn.lt hr, hn.grown hg hr, fun g hgv hm => ?_⟩
  rcases ha with ha | ha
  · exact hr g (ha ▸ hgv) hm
  · rw [ha] at hgv
    injection hgv with hgv
    subst hgv
    exact Nat.lt_irrefl _ (hn.lt _ hm)

/-- what it reads as -/
theorem OwS.toOw (h : OwS w B e k f v l us fi) : ∃ fp, Ow w (.s k l.length (l.flatMap f)) v fp ∧ New w fp B := by
  have hl := h.cells.length
  have hu := h.own.1
  rcases h.own.2 with ⟨rfl, hn⟩ | ⟨g, cap, cur, rfl, hB, hg, h1, h2, h3, h4⟩
  · refine ⟨[], ?_, New.nil _ _⟩
    unfold Ow
    exact ⟨by rw [← hl, hu], none, 0, by rw [hn], by omega, by simp [maxLen], .inl ⟨hn, rfl⟩⟩
  · have hrow : Row w g e cur.toList := by simpa [Row] using hg
    by_cases h0 : l.length = 0
    · refine ⟨[], ?_, New.nil _ _⟩
      unfold Ow
      exact ⟨by rw [← hl, hu], _, cap, rfl, h1, h2, .inl ⟨h0, rfl⟩⟩
    · refine ⟨g :: fi, ?_, ⟨h.new.fr.cons hB hrow.lt, List.nodup_cons.2 ⟨h.out g rfl, h.new.nd⟩, fun b hb => ?_⟩⟩
      · unfold Ow
        refine ⟨by rw [← hl, hu], _, cap, rfl, h1, h2, .inr ⟨by omega, g, 0, fi, rfl, ?_, rfl⟩⟩
        refine OwC.row _ h.cells (fun j u hj => ?_)
        have hj' : j < us.length := (List.getElem?_eq_some_iff.1 hj).1
        rw [Nat.zero_add, hrow.cell]
        rw [← h4, List.getElem?_take] at hj
        split at hj
        · exact hj
        · cases hj
      · rcases List.mem_cons.1 hb with rfl | hb
        · exact Unf.row hrow
        · exact h.new.uf b hb
end
/-! ### What a call does that grows one slice v into v': all other old blocks stay -/
structure GB (w w' : World) (v v' : Value) : Prop where
  grown : w.grownBy w' v.ownBlock
  at' : v'.ownBlock = v.ownBlock ∨ ∃ g, v'.ownBlock = some g ∧ w.heap.size ≤ g

section
variable {w w1 w2 : World} {v v1 v2 : Value}
theorem GB.refl (w : World) (v : Value) : GB w w v v := ⟨⟨rfl, rfl, rfl, Nat.le_refl _, fun _ _ _ => rfl⟩, .inl rfl⟩
theorem GB.trans (h : GB w w1 v v1) (k : GB w1 w2 v1 v2) : GB w w2 v v2 := by
  refine ⟨⟨k.grown.os.trans h.grown.os, k.grown.tape.trans h.grown.tape, k.grown.output.trans h.grown.output, Nat.le_trans h.grown.size k.grown.size, fun i hi hne => ?_⟩, ?_⟩
  · refine (k.grown.block i (Nat.lt_of_lt_of_le hi h.grown.size) ?_).trans (h.grown.block i hi hne)
    rcases h.at' with e | ⟨g, e, hg⟩
    · rw [e]; exact hne
    · rw [e]; intro e'; injection e' with e'; omega
  · rcases k.at' with e | ⟨g, e, hg⟩
    · rw [e]; exact h.at'
    · exact .inr ⟨g, e, Nat.le_trans h.grown.size hg⟩
theorem GB.below (h : GB w w1 v v1) (hb : Below w1.heap.size w1 w2) : GB w w2 v v1 :=
  h.trans ⟨⟨hb.os, hb.tape, hb.output, hb.size, fun i hi _ => hb.block i hi⟩, .inl rfl⟩
theorem GB.alloc (h : GB w w1 v v1) (o : Obj) : GB w (w1.alloc o) v v1 := h.below ((Below.refl _ _).alloc (Nat.le_refl _) o)
theorem GB.drewN (h : GB w w1 v v1) (n : Nat) : GB w (w1.drewN n) v v1 := h.below ⟨rfl, rfl, rfl, Nat.le_refl _, fun _ _ => rfl⟩
theorem GB.step (hg : w.grownBy w1 v.ownBlock) (ha : v1.ownBlock = v.ownBlock ∨ v1.ownBlock = some w.heap.size) : GB w w1 v v1 :=
  ⟨hg, ha.imp id (fun e => ⟨_, e, Nat.le_refl _⟩)⟩
theorem GB.toBelow (h : GB w w1 v v1) {B : Nat} (hB : B ≤ w.heap.size) (hv : ∀ g, v.ownBlock = some g → B ≤ g) : Below B w w1 :=
  ⟨h.grown.os, h.grown.tape, h.grown.output, h.grown.size, fun i hi => h.grown.block i (by omega) (fun e => by have := hv i e.symm; omega)⟩
theorem GB.ne (h : GB w w1 v v1) {g : Nat} (hg : g < w.heap.size) (hn : v.ownBlock ≠ some g) : v1.ownBlock ≠ some g := by
  rcases h.at' with e | ⟨b, e, hb⟩
  · rw [e]; exact hn
  · rw [e]; intro e'; injection e' with e'; omega
theorem GB.row (h : GB w w1 v v1) {g : Nat} {e : TypeId} {cs : List Value} (hr : Row w g e cs) (hn : v.ownBlock ≠ some g) : Row w1 g e cs :=
  (h.grown.block g hr.lt hn.symm).trans hr
theorem GB.from (h : GB w w1 v v1) {B : Nat} (hB : B ≤ w.heap.size) (hv : ∀ g, v.ownBlock = some g → B ≤ g) : ∀ g, v1.ownBlock = some g → B ≤ g := fun g hg => by
  rcases h.at' with e | ⟨b, e, hb⟩
  · rw [e] at hg; exact hv g hg
  · rw [e] at hg; injection hg with hg; omega
end
theorem ownsRow_from {w : World} {B n : Nat} {e : TypeId} {k : Nat} {v : Value} {xs : List Value} (h : w.ownsRow B e k v n xs) : ∀ g, v.ownBlock = some g → B ≤ g := fun g hg => (h.lt g hg).1
theorem ownsRow_below {w w' : World} {B n : Nat} {e : TypeId} {k : Nat} {v : Value} {xs : List Value} (h : w.ownsRow B e k v n xs) (hb : Below w.heap.size w w') : w'.ownsRow B e k v n xs := by
  refine ⟨h.1, ?_⟩
  rcases h.2 with hn | ⟨g, cap, cur, hv, hB, hg, rest⟩
  · exact .inl hn
  · refine .inr ⟨g, cap, cur, hv, hB, ?_, rest⟩
    rw [hb.block g (h.lt g (by rw [hv]; rfl)).2]
    exact hg
end Go.Proofs.Ytbjblchhenmgjaa
namespace Go.Proofs.Ytbjblchhenmgjaa
open Go.ChangeShapes Go.WideShapes Go.ChangeAt Go.RowKit

def u8s (bs : List UInt8) : List Value := bs.map fun b => Value.int .u8 (b.toNat : Int)
theorem u8s_len (bs : List UInt8) : (u8s bs).length = bs.length := by simp [u8s]
theorem u8s_app (a b : List UInt8) : u8s (a ++ b) = u8s a ++ u8s b := by simp [u8s]
theorem u8s_one (bs : List UInt8) : ∀ u ∈ u8s bs, u.oneCell' = true := fun u hu => by
  simp only [u8s, List.mem_map] at hu
  obtain ⟨b, _, rfl⟩ := hu
  rfl
/-- A slice of bytes of the call's own, from B on. -/
def Byt (w : World) (B : Nat) (v : Value) (bs : List UInt8) : Prop := w.ownsRow B 5 1 v bs.length (u8s bs)
/-- What stays: all below B, and all rows that are not of bytes. -/
structure KB (B : Nat) (w w' : World) : Prop where
  below : Below B w w'
  rows : ∀ g e cs, Row w g e cs → e ≠ 5 → Row w' g e cs

section
variable {w w' w1 w2 : World} {B : Nat} {v v' : Value} {bs : List UInt8}
theorem KB.refl (B : Nat) (w : World) : KB B w w := ⟨Below.refl _ _, fun _ _ _ h _ => h⟩
theorem KB.trans (h : KB B w w1) (k : KB B w1 w2) : KB B w w2 := ⟨h.below.trans k.below, fun g e cs hr he => k.rows g e cs (h.rows g e cs hr he) he⟩
theorem KB.of (hB : B ≤ w.heap.size) (hb : Below w.heap.size w w') : KB B w w' := ⟨hb.mono hB, fun g e cs hr _ => hr.below hb hr.lt⟩
theorem KB.alloc (h : KB B w w1) (hB : B ≤ w1.heap.size) (o : Obj) : KB B w (w1.alloc o) := h.trans (KB.of hB ((Below.refl _ _).alloc (Nat.le_refl _) o))
theorem Byt.ne (h : Byt w B v bs) {g : Nat} {e : TypeId} {cs : List Value} (hr : Row w g e cs) (he : e ≠ 5) : v.ownBlock ≠ some g := fun hv => by
  rcases h.2 with ⟨rfl, _⟩ | ⟨g', cap, cur, rfl, _, hg, _⟩
  · cases hv
  · simp only [Value.ownBlock, Option.some.injEq] at hv
    subst hv
    unfold Row at hr
    rw [hg] at hr
    injection hr with hr
    injection hr with _ hr _
    exact he hr.symm
theorem KB.grown (h : Byt w B v bs) (hg : w.grownBy w' v.ownBlock) (hB : B ≤ w.heap.size) : KB B w w' :=
  ⟨⟨hg.os, hg.tape, hg.output, hg.size, fun i hi => hg.block i (by omega) (fun e => by have := (World.ownsRow.lt h i e.symm).1; omega)⟩, fun g e cs hr he => (hg.block g hr.lt (h.ne hr he).symm).trans hr⟩
theorem Byt.nil (w : World) (B : Nat) : Byt w B (.slice none 0 0) [] := World.ownsRow_nil _ _ _ _
theorem Byt.below (h : Byt w B v bs) (hb : Below w.heap.size w w') : Byt w' B v bs := ownsRow_below h hb
theorem Byt.alloc (h : Byt w B v bs) (o : Obj) : Byt (w.alloc o) B v bs := h.below ((Below.refl _ _).alloc (Nat.le_refl _) o)
theorem Byt.mono {C : Nat} (h : Byt w B v bs) (hC : C ≤ B) : Byt w C v bs := by
  refine ⟨h.1, ?_⟩
  rcases h.2 with hn | ⟨g, cap, cur, hv, hB, rest⟩
  · exact .inl hn
  · exact .inr ⟨g, cap, cur, hv, by omega, rest⟩
theorem Byt.new (w : World) (b : UInt8) : Byt (w.alloc (.cells #[.int .u8 (b.toNat : Int)] 5)) w.heap.size (.slice (some ⟨w.heap.size, 0, none⟩) 1 1) [b] :=
  ⟨rfl, .inr ⟨_, 1, _, rfl, Nat.le_refl _, heap_alloc_new w _, Nat.le_refl _, by decide, rfl, rfl⟩⟩
theorem u8s_cells : ∀ (bs : List UInt8) (w : World), OwC w (bs.flatMap byteC) (u8s bs) []
  | [], w => by simp [OwC, u8s]
  | b :: r, w => ⟨[], [], ⟨rfl, by
      have h := b.toNat_lt
      show (Lit.int .u8 (b.toNat : Int)).wf = true
      simp [Lit.wf, IntKind.min, IntKind.max, IntKind.signed, IntKind.bits]
      omega, rfl⟩, u8s_cells r w, rfl⟩
theorem Byt.toOw (h : Byt w B v bs) : ∃ fp, Ow w (.s 1 bs.length (bs.flatMap byteC)) v fp ∧ New w fp B :=
  OwS.toOw (f := byteC) ⟨h, u8s_cells bs w, New.nil _ _, fun g _ => by simp⟩
theorem Byt.form (h : Byt w B v bs) (hn : bs ≠ []) : ∃ g c, v = .slice (some ⟨g, 0, none⟩) bs.length c ∧ ∀ j u, (u8s bs)[j]? = some u → w.cell? ((⟨g, 0, none⟩ : Addr).add j) = some u := by
  rcases h.2 with ⟨_, h0⟩ | ⟨g, cap, cur, hv, _⟩
  · exact absurd (List.eq_nil_of_length_eq_zero h0) hn
  · subst hv
    exact ⟨g, cap, rfl, h.cells (g := g) rfl⟩
end

/-- a list of bytes as a text -/
def ba (l : List UInt8) : ByteArray := ⟨l.toArray⟩
theorem ba_app (a b : List UInt8) : ba (a ++ b) = ba a ++ ba b := by
  apply bytes_inj
  simp [ba]
theorem ba_size (l : List UInt8) : (ba l).size = l.length := by simp [ba, ByteArray.size]
theorem Byt.conv {w : World} {B : Nat} {v : Value} {bs : List UInt8} (h : Byt w B v bs) (hn : bs ≠ []) : (convert 22 9 v).run Try.prog w = .ok (.string (ba bs)) w := by
  obtain ⟨g, c, rfl, hc⟩ := h.form hn
  refine run_convert_bytes_back w 22 9 5 ⟨g, 0, none⟩ c bs Try.underlying22 Try.underlying5 Try.underlying9 (fun j hj => hc j _ ?_)
  simp [u8s, List.getElem?_eq_getElem hj]
section
variable {ops : Array Oper} {rest : List Oper} {o : Oper} {a : Act} {Q : Exit → Act → World → Prop} (w : World)
theorem wpl_bytes (hgd : o.guard = none) (s x : Operand) (ho : o.op = .call { callee := .builtin .append, args := #[s, x], argTypes := #[22, 22] })
    (B C : Nat) (v v2 : Value) (bs ys : List UInt8) (hs : a.eval s = v) (hown : Byt w B v bs) (hx : a.eval x = v2) (h2 : Byt w C v2 ys) (hn : ys ≠ []) (hl : bs.length + ys.length ≤ 1099511627776) (hB : B ≤ w.heap.size)
    (h : ∀ v' w', Byt w' B v' (bs ++ ys) → KB B w w' → wpList Try.prog ops Q rest (a.put o.dst v') w') : wpList Try.prog ops Q (o :: rest) a w := by
  obtain ⟨i0, hi, hz0, hz1, hz2⟩ := info_parts (show (Try.prog.info? 5).map (fun i => (i.zero, i.size, i.bytes)) = some (some (.int .u8 0), 1, 1) by kernel_rfl)
  obtain ⟨g, c, rfl, hc⟩ := h2.form hn
  refine wpList_append_own_at w hgd s x 22 ho B 5 i0 (.int .u8 0) 1 1 Try.underlying22 hi hz0 hz1 hz2 rfl (by decide) v bs.length (u8s bs) hs hown ⟨g, 0, none⟩ ys.length c (u8s ys) hx (by rw [u8s_len]; omega) hc (u8s_one ys) (by unfold maxLen; omega) (by omega) hB ?_
  intro v' w' hown' hgrow _ _
  refine h v' w' ?_ (KB.grown hown hgrow hB)
  unfold Byt
  rw [u8s_app, List.length_append]
  exact hown'
theorem wpl_cells (hgd : o.guard = none) (s x : Operand) (ho : o.op = .call { callee := .builtin .append, args := #[s, x], argTypes := #[22, 22] })
    (B : Nat) (v : Value) (bs ys : List UInt8) (hs : a.eval s = v) (hown : Byt w B v bs) (g n c : Nat) (hx : a.eval x = .slice (some ⟨g, 0, none⟩) n c) (hn : n = ys.length) (hc : ∀ j u, (u8s ys)[j]? = some u → w.cell? ((⟨g, 0, none⟩ : Addr).add j) = some u) (hl : bs.length + ys.length ≤ 1099511627776) (hB : B ≤ w.heap.size)
    (h : ∀ v' w', Byt w' B v' (bs ++ ys) → KB B w w' → wpList Try.prog ops Q rest (a.put o.dst v') w') : wpList Try.prog ops Q (o :: rest) a w := by
  subst hn
  obtain ⟨i0, hi, hz0, hz1, hz2⟩ := info_parts (show (Try.prog.info? 5).map (fun i => (i.zero, i.size, i.bytes)) = some (some (.int .u8 0), 1, 1) by kernel_rfl)
  refine wpList_append_own_at w hgd s x 22 ho B 5 i0 (.int .u8 0) 1 1 Try.underlying22 hi hz0 hz1 hz2 rfl (by decide) v bs.length (u8s bs) hs hown ⟨g, 0, none⟩ ys.length c (u8s ys) hx (by rw [u8s_len]; omega) hc (u8s_one ys) (by unfold maxLen; omega) (by omega) hB ?_
  intro v' w' hown' hgrow _ _
  refine h v' w' ?_ (KB.grown hown hgrow hB)
  unfold Byt
  rw [u8s_app, List.length_append]
  exact hown'
theorem wpl_push (hgd : o.guard = none) (s x : Operand) (ho : o.op = .call { callee := .builtin .append, args := #[s, x], argTypes := #[22, 22] })
    (B : Nat) (v : Value) (bs : List UInt8) (hs : a.eval s = v) (hown : Byt w B v bs) (g c : Nat) (b : UInt8) (z : Int) (hz : z = (b.toNat : Int)) (hx : a.eval x = .slice (some ⟨g, 0, none⟩) 1 c) (hc : w.cell? ⟨g, 0, none⟩ = some (.int .u8 z)) (hl : bs.length + 1 ≤ 1099511627776) (hB : B ≤ w.heap.size)
    (h : ∀ v' w', Byt w' B v' (bs ++ [b]) → KB B w w' → wpList Try.prog ops Q rest (a.put o.dst v') w') : wpList Try.prog ops Q (o :: rest) a w := by
  subst hz
  obtain ⟨i0, hi, hz0, hz1, hz2⟩ := info_parts (show (Try.prog.info? 5).map (fun i => (i.zero, i.size, i.bytes)) = some (some (.int .u8 0), 1, 1) by kernel_rfl)
  refine wpList_append_own_at w hgd s x 22 ho B 5 i0 (.int .u8 0) 1 1 Try.underlying22 hi hz0 hz1 hz2 rfl (by decide) v bs.length (u8s bs) hs hown ⟨g, 0, none⟩ 1 c (u8s [b]) hx rfl ?_ (u8s_one [b]) (by unfold maxLen; omega) (by omega) hB ?_
  · intro j u hj
    match j, hj with
    | 0, hj => simp [u8s] at hj; subst hj; simpa [Addr.add] using hc
  intro v' w' hown' hgrow _ _
  refine h v' w' ?_ (KB.grown hown hgrow hB)
  unfold Byt
  rw [u8s_app, List.length_append]
  exact hown'
theorem wpl_push1 (z : Int) (hgd : o.guard = none) (s x : Operand) (ho : o.op = .call { callee := .builtin .append, args := #[s, x], argTypes := #[22, 22] })
    (B : Nat) (v : Value) (bs : List UInt8) (hs : a.eval s = v) (hown : Byt w B v bs) (b : UInt8) (g : Nat) (hx : a.eval x = .slice (some ⟨g, 0, none⟩) 1 1) (hg : g = w.heap.size) (hz : z = (b.toNat : Int)) (hl : bs.length + 1 ≤ 1099511627776) (hB : B ≤ w.heap.size)
    (h : ∀ v' w', Byt w' B v' (bs ++ [b]) → KB B w w' → wpList Try.prog ops Q rest (a.put o.dst v') w') : wpList Try.prog ops Q (o :: rest) a (w.alloc (.cells #[.int .u8 z] 5)) := by
  subst hg
  refine wpl_push _ hgd s x ho B v bs hs (hown.alloc _) w.heap.size 1 b z hz hx (by simp) hl (by simp; omega) (fun v' w' h1 h2 => h v' w' h1 (((KB.refl B w).alloc hB _).trans h2))
theorem wpl_push2 (z1 z2 : Int) (hgd : o.guard = none) (s x : Operand) (ho : o.op = .call { callee := .builtin .append, args := #[s, x], argTypes := #[22, 22] })
    (B : Nat) (v : Value) (bs : List UInt8) (hs : a.eval s = v) (hown : Byt w B v bs) (b1 b2 : UInt8) (g : Nat) (hx : a.eval x = .slice (some ⟨g, 0, none⟩) 2 2) (hg : g = w.heap.size) (hz1 : z1 = (b1.toNat : Int)) (hz2 : z2 = (b2.toNat : Int)) (hl : bs.length + 2 ≤ 1099511627776) (hB : B ≤ w.heap.size)
    (h : ∀ v' w', Byt w' B v' (bs ++ [b1, b2]) → KB B w w' → wpList Try.prog ops Q rest (a.put o.dst v') w') : wpList Try.prog ops Q (o :: rest) a (w.alloc (.cells #[.int .u8 z1, .int .u8 z2] 5)) := by
  subst hg hz1 hz2
  refine wpl_cells _ hgd s x ho B v bs [b1, b2] hs (hown.alloc _) w.heap.size 2 2 hx rfl ?_ hl (by simp; omega) (fun v' w' h1 h2 => h v' w' h1 (((KB.refl B w).alloc hB _).trans h2))
  intro j u hj
  have hr := Row.new w 5 [.int .u8 (b1.toNat : Int), .int .u8 (b2.toNat : Int)]
  have hadd : (⟨w.heap.size, 0, none⟩ : Addr).add j = ⟨w.heap.size, j, none⟩ := by unfold Addr.add; split <;> simp_all
  rw [hadd]
  exact (hr.cell j).trans hj
theorem wpl_push2G (z1 z2 : Int) (hgd : o.guard = none) (s x : Operand) (ho : o.op = .call { callee := .builtin .append, args := #[s, x], argTypes := #[22, 22] })
    (B : Nat) (v : Value) (bs : List UInt8) (hs : a.eval s = v) (hown : Byt w B v bs) (b1 b2 : UInt8) (g : Nat) (hx : a.eval x = .slice (some ⟨g, 0, none⟩) 2 2) (hg : g = w.heap.size) (hz1 : z1 = (b1.toNat : Int)) (hz2 : z2 = (b2.toNat : Int)) (hl : bs.length + 2 ≤ 1099511627776) (hB : B ≤ w.heap.size)
    (h : ∀ v' w', Byt w' B v' (bs ++ [b1, b2]) → KB B w w' → (∀ g, g < w.heap.size → v.ownBlock ≠ some g → w'.heap[g]? = w.heap[g]?) → wpList Try.prog ops Q rest (a.put o.dst v') w') : wpList Try.prog ops Q (o :: rest) a (w.alloc (.cells #[.int .u8 z1, .int .u8 z2] 5)) := by
  subst hg hz1 hz2
  obtain ⟨i0, hi, hz0, hz1, hz2⟩ := info_parts (show (Try.prog.info? 5).map (fun i => (i.zero, i.size, i.bytes)) = some (some (.int .u8 0), 1, 1) by kernel_rfl)
  refine wpList_append_own_at _ hgd s x 22 ho B 5 i0 (.int .u8 0) 1 1 Try.underlying22 hi hz0 hz1 hz2 rfl (by decide) v bs.length (u8s bs) hs (hown.alloc _) ⟨w.heap.size, 0, none⟩ 2 2 (u8s [b1, b2]) hx rfl ?_ (u8s_one _) (by unfold maxLen; omega) (by omega) (by simp; omega) ?_
  · intro j u hj
    have hr := Row.new w 5 [.int .u8 (b1.toNat : Int), .int .u8 (b2.toNat : Int)]
    have hadd : (⟨w.heap.size, 0, none⟩ : Addr).add j = ⟨w.heap.size, j, none⟩ := by unfold Addr.add; split <;> simp_all
    rw [hadd]
    exact (hr.cell j).trans hj
  intro v' w' hown' hgrow _ _
  refine h v' w' ?_ (((KB.refl B w).alloc hB _).trans (KB.grown (hown.alloc _) hgrow (by simp; omega))) (fun g hg hne => ?_)
  · unfold Byt
    rw [u8s_app, List.length_append]
    exact hown'
  · exact (hgrow.block g (by simp; omega) (fun e => hne e.symm)).trans (Below.heap_alloc w _ g hg)
theorem wpl_str (hgd : o.guard = none) (s x : Operand) (ho : o.op = .call { callee := .builtin .append, args := #[s, x], argTypes := #[22, 9] })
    (B : Nat) (v : Value) (bs : List UInt8) (hs : a.eval s = v) (hown : Byt w B v bs) (t : ByteArray) (hx : a.eval x = .string t) (hl : bs.length + t.size ≤ 1099511627776) (hB : B ≤ w.heap.size)
    (h : ∀ v' w', Byt w' B v' (bs ++ t.data.toList) → KB B w w' → wpList Try.prog ops Q rest (a.put o.dst v') w') : wpList Try.prog ops Q (o :: rest) a w := by
  obtain ⟨i0, hi, hz0, hz1, hz2⟩ := info_parts (show (Try.prog.info? 5).map (fun i => (i.zero, i.size, i.bytes)) = some (some (.int .u8 0), 1, 1) by kernel_rfl)
  refine Lib.wpList_append_own_string w hgd s x 22 9 ho B 5 i0 Try.underlying22 Try.underlying9 hi hz0 hz1 hz2 v bs.length (u8s bs) hs hown t hx (by unfold maxLen; omega) (by omega) hB ?_
  intro v' w' hown' hgrow _
  refine h v' w' ?_ (KB.grown hown hgrow hB)
  unfold Byt
  rw [u8s_app, List.length_append, show t.data.toList.length = t.size from by rw [Array.length_toList]; rfl]
  exact hown'
end
theorem cells_keep {w w' : World} {g : Nat} (h : w'.heap[g]? = w.heap[g]?) (j : Nat) : w'.cell? ((⟨g, 0, none⟩ : Addr).add j) = w.cell? ((⟨g, 0, none⟩ : Addr).add j) := by
  have hadd : (⟨g, 0, none⟩ : Addr).add j = ⟨g, j, none⟩ := by unfold Addr.add; split <;> simp_all
  rw [hadd]
  exact World.cell?_of_block (a := ⟨g, j, none⟩) h
theorem Byt.lt {w : World} {B : Nat} {v : Value} {bs : List UInt8} (h : Byt w B v bs) : ∀ g, v.ownBlock = some g → g < w.heap.size := fun g hg => (World.ownsRow.lt h g hg).2
end Go.Proofs.Ytbjblchhenmgjaa
