/-
  The reference's reader of trees: tree.
-/
import Derived.Test.YtnaecdoeldoipaaGreatDoorTrS3
import Derived.Deep.RegionHeld3
import Derived.Deep.RegionLaw
import Derived.Deep.CutRange
import Derived.Deep.DeepCutAuto
set_option linter.unusedVariables false
set_option linter.unusedSimpArgs false
namespace Go.Proofs.YtnaecdoeldoipaaGreatDoor
open Go.ChangeShapes Go.WideShapes Go.ChangeAt Go.RowKit

theorem head_consR {l r : List UInt8} {a c : UInt8} (h : l.headD 0 = c) (e : l = a :: r) : a = c := by subst e; exact h
theorem head_split {l : List UInt8} {c : UInt8} (h : l.headD 0 = c) (hc : c ≠ 0) : ∃ r, l = c :: r := by
  cases l with
  | nil => exact absurd h.symm hc
  | cons a r => exact ⟨r, by rw [← h]; rfl⟩
set_option maxRecDepth 100000 in
set_option maxHeartbeats 4000000 in
theorem treeRdS_of (f : Nat) (ih : ∀ f', f = f' + 1 → TreeRdS f') : TreeRdS f := by
  intro s l bad g lv w hlf hlv h
  have hgw := h.lt
  have HEND := hide (fun (W : World) (k : Tree) (vs : List Value) (fq : List Nat) (l' : List UInt8) (bad' : Bool) (ho : OwC W k.cells vs fq) (hn : New W fq (w.heap.size + 1)) (hr : RdK W g s f l' bad') (hg : w.grownBy W (some g)) (hp : Paid lv l k.bulk l' bad') (ht : TakesT lv l bad k l' bad') (hbb : bad' = false → bad = false) =>
    show TreeOutR (fun w l b => RdK w g s f l b) g lv l bad w (.returned (.agg vs.toArray)) (putN W w.heap.size 0 vs) from by
      have hgr := setN_grown vs 0 (grown_refl W (some w.heap.size))
      have hno : w.heap.size ∉ fq := hn.out (by omega)
      exact ⟨k, vs, fq, l', bad', rfl, ho.grown hgr hn.lt hno, (hn.grown hgr (fun b e => by injection e with e; subst e; exact hno)).mono (by omega), hr.low (fin_lowR hg vs) hgw, fin_grownR hg vs, hp, ht, hbb⟩)
  have HIH := hide ih
  have HR0 := hide h
  clear h ih
  go_enter Tryz.func52, Tryz.ntmps52
  go_upto_region 1 with fail
  generalize hw1 : w.alloc _ = w1
  have hb0 : Below w.heap.size w w1 := by rw [← hw1]; exact (Below.refl _ _).alloc (Nat.le_refl _) _
  have HZ := hide (show Row w1 w.heap.size 26 zTree from by rw [← hw1]; exact Row.new w _ _)
  have HR := hide (HR0.out.below hb0)
  have HG := hide (grownBy_below hb0 (some g))
  have hg1 := HR.out.lt
  have hz1 := HZ.out.lt
  clear hw1 hb0 HR0
  by_cases hstop : bad = true ∨ 6 < lv
  · have HRq := hide (HR.out.setBad)
    have HGq := hide (only_setCell (p := ⟨g, 2, none⟩) HG.out (.inl rfl) (.bool true))
    have HZq := hide (HZ.out.grown (only_setCell (p := ⟨g, 2, none⟩) (grown_refl _ (some g)) (.inl rfl) (.bool true)) (fun e => by injection e with e; omega))
    have hor : (bad = true) ∨ (bad = false ∧ (6 : Int) < (lv : Int)) := by
      rcases hb : bad with _ | _
      · rcases hstop with hs | hs
        · rw [hb] at hs; cases hs
        · exact .inr ⟨rfl, by omega⟩
      · exact .inl rfl
    have HT := hide (show TakesT lv l bad (.mk 0 0 .empty [] []) l true from by
      rcases hor with rfl | ⟨_, h6⟩
      · exact TakesT.bad
      · exact TakesT.deep (by omega))
    obtain ⟨hbc, hbf⟩ := HR.out.cells
    have z0 := HZq.out.cell 0
    have y0 := HZq.out.frozen 0
    have z1 := HZq.out.cell 1
    have y1 := HZq.out.frozen 1
    have z2 := HZq.out.cell 2
    have y2 := HZq.out.frozen 2
    have z3 := HZq.out.cell 3
    have y3 := HZq.out.frozen 3
    have z4 := HZq.out.cell 4
    have y4 := HZq.out.frozen 4
    have lz := HZq.out.lt
    clear hstop
    rcases hor with rfl | ⟨rfl, hdd⟩
    all_goals
      go_wp2
      refine bodyPost_ret (ret_row rfl _ _ w.heap.size 26 [.int .i64 0, .int .i64 0, .string ⟨#[]⟩, .slice none 0 0, .slice none 0 0] (HZq.out.setAll [.int .i64 0, .int .i64 0, .string ⟨#[]⟩, .slice none 0 0, .slice none 0 0] rfl) _ rfl Tryz.underlying26 rfl (by kernel_rfl)) rfl ?_
      exact HEND.out _ (.mk 0 0 .empty [] []) _ [] l true (tleaf_ow _ (by decide) (by decide) (by decide)) (New.nil _ _) (HRq.out.mono (by omega)) HGq.out (Paid.none lv l) HT.out (fun h => by cases h)
  · obtain rfl : bad = false := by
      rcases hb : bad with _ | _
      · rfl
      · exact absurd (.inl hb) hstop
    have hd6 : lv ≤ 6 := Nat.not_lt.1 (fun hd => hstop (.inr hd))
    have hdi : ¬ ((6 : Int) < (lv : Int)) := by omega
    obtain ⟨f', rfl⟩ : ∃ f', f = f' + 1 := ⟨f - 1, by omega⟩
    have HI := hide (HIH.out f' rfl)
    obtain ⟨hbc, hbf⟩ := HR.out.cells
    have HLK := hide (look1_any HR.out (by omega))
    clear hstop HIH
    go_wp2_with fail
    refine HLK.out.mono ?_
    rintro e w2 ⟨rfl, q, hw2⟩
    have HR2 := hide (show RdK w2 g s 0 l false from by rw [hw2]; exact HR.out.drewN q)
    have HZ2 := hide (show Row w2 w.heap.size 26 zTree from by rw [hw2]; exact HZ.out.drewN q)
    have HG2 := hide (show w.grownBy w2 (some g) from by rw [hw2]; exact only_drewN HG.out q)
    obtain ⟨c, hc⟩ : ∃ c, l.headD 0 = c := ⟨_, rfl⟩
    rw [hc]
    have HC := hide (fun (a : UInt8) (r : List UInt8) (e : l = a :: r) => (show a = c from head_consR hc e))
    have HCD := hide hc
    have hcl := c.toNat_lt
    have hg2 := HR2.out.lt
    clear hw2 hc HLK HR HZ HG hbc hbf hg1 hz1
    have HEAT := hide (fun (u : ByteArray) (h1 : 1 ≤ u.size) (h2 : u.size ≤ 100) => eat1_any HR2.out (by omega) u h1 h2)
    by_cases ca : c = 34
    · have ci : (c.toNat : Int) = 34 := by subst ca; rfl
      have HC1 := hide (fun a r e => (HC.out a r e).trans ca)
      have HCE := hide (show l.headD 0 = 34 from HCD.out.trans ca)
      clear ca HC HCD
      rw [ci]
      have HTX := hide (text1_any HR2.out)
      go_wp2_with fail
      refine HTX.out.mono ?_
      rintro e w3 ⟨x, l3, b3, rfl, hx3, h3, ht3, hp3, hg3⟩
      have HR3 := hide h3
      have HG3 := hide (only_trans HG2.out hg3)
      have HZ3 := hide (HZ2.out.grown hg3 (fun e => by injection e with e; omega))
      have HT3 := hide ht3
      have HP3 := hide hp3
      have hg3' := HR3.out.lt
      clear h3 ht3 hp3 hg3 HTX
      have z0 := HZ3.out.cell 0
      have y0 := HZ3.out.frozen 0
      have z1 := HZ3.out.cell 1
      have y1 := HZ3.out.frozen 1
      have z2 := HZ3.out.cell 2
      have y2 := HZ3.out.frozen 2
      have z3 := HZ3.out.cell 3
      have y3 := HZ3.out.frozen 3
      have z4 := HZ3.out.cell 4
      have y4 := HZ3.out.frozen 4
      have lz := HZ3.out.lt
      go_wp2
      refine bodyPost_ret (ret_row rfl _ _ w.heap.size 26 [.int .i64 2, .int .i64 0, .string x, .slice none 0 0, .slice none 0 0] (HZ3.out.setAll [.int .i64 2, .int .i64 0, .string x, .slice none 0 0, .slice none 0 0] rfl) _ rfl Tryz.underlying26 rfl (by kernel_rfl)) rfl ?_
      exact HEND.out _ (.mk 2 0 x [] []) _ [] l3 b3 (tleaf_ow _ (by decide) (by decide) (by unfold maxLen; omega)) (New.nil _ _) (HR3.out.mono (by omega)) HG3.out (by rw [Tree.bulk_text]; have h1 := HP3.out.1; have h2 := HP3.out.2; exact ⟨by omega, by omega, fun hb => by have := h2 hb; omega⟩) (TakesT.text HT3.out HC1.out) (fun _ => by first | rfl | trivial)
    have nca : ¬ ((c.toNat : Int) = 34) := fun e => ca (UInt8.toNat_inj.1 (show c.toNat = 34 from by omega))
    by_cases cb : c = 121
    · have ci : (c.toNat : Int) = 121 := by subst cb; rfl
      have HC1 := hide (fun a r e => (HC.out a r e).trans cb)
      have HCE := hide (show l.headD 0 = 121 from HCD.out.trans cb)
      clear cb HC HCD
      rw [ci]
      go_wp2_with fail
      refine (HEAT.out _ (by decide) (by decide)).mono ?_
      rintro e w3 ⟨ok, l3, rfl, h3, he3, hg3⟩
      rw [Bool.false_or] at h3
      have HR3 := hide h3
      have HG3 := hide (only_trans HG2.out hg3)
      have HZ3 := hide (HZ2.out.grown hg3 (fun e => by injection e with e; omega))
      have HE3 := hide he3
      have hg3' := HR3.out.lt
      clear h3 he3 hg3
      have z0 := HZ3.out.cell 0
      have y0 := HZ3.out.frozen 0
      have z1 := HZ3.out.cell 1
      have y1 := HZ3.out.frozen 1
      have z2 := HZ3.out.cell 2
      have y2 := HZ3.out.frozen 2
      have z3 := HZ3.out.cell 3
      have y3 := HZ3.out.frozen 3
      have z4 := HZ3.out.cell 4
      have y4 := HZ3.out.frozen 4
      have lz := HZ3.out.lt
      go_wp2
      refine bodyPost_ret (ret_row rfl _ _ w.heap.size 26 [.int .i64 3, .int .i64 1, .string ⟨#[]⟩, .slice none 0 0, .slice none 0 0] (HZ3.out.setAll [.int .i64 3, .int .i64 1, .string ⟨#[]⟩, .slice none 0 0, .slice none 0 0] rfl) _ rfl Tryz.underlying26 rfl (by kernel_rfl)) rfl ?_
      exact HEND.out _ (.mk 3 1 .empty [] []) _ [] l3 (!ok) (tleaf_ow _ (by decide) (by decide) (by decide)) (New.nil _ _) (HR3.out.mono (by omega)) HG3.out (Paid.leaf (by decide) HE3.out _ rfl) (TakesT.yes HE3.out HC1.out) (fun _ => by first | rfl | trivial)
    have ncb : ¬ ((c.toNat : Int) = 121) := fun e => cb (UInt8.toNat_inj.1 (show c.toNat = 121 from by omega))
    by_cases cc : c = 110
    · have ci : (c.toNat : Int) = 110 := by subst cc; rfl
      have HC1 := hide (fun a r e => (HC.out a r e).trans cc)
      have HCE := hide (show l.headD 0 = 110 from HCD.out.trans cc)
      clear cc HC HCD
      rw [ci]
      go_wp2_with fail
      refine (HEAT.out _ (by decide) (by decide)).mono ?_
      rintro e w3 ⟨ok, l3, rfl, h3, he3, hg3⟩
      rw [Bool.false_or] at h3
      have HR3 := hide h3
      have HG3 := hide (only_trans HG2.out hg3)
      have HZ3 := hide (HZ2.out.grown hg3 (fun e => by injection e with e; omega))
      have HE3 := hide he3
      have hg3' := HR3.out.lt
      clear h3 he3 hg3
      have z0 := HZ3.out.cell 0
      have y0 := HZ3.out.frozen 0
      have z1 := HZ3.out.cell 1
      have y1 := HZ3.out.frozen 1
      have z2 := HZ3.out.cell 2
      have y2 := HZ3.out.frozen 2
      have z3 := HZ3.out.cell 3
      have y3 := HZ3.out.frozen 3
      have z4 := HZ3.out.cell 4
      have y4 := HZ3.out.frozen 4
      have lz := HZ3.out.lt
      go_wp2
      refine bodyPost_ret (ret_row rfl _ _ w.heap.size 26 [.int .i64 3, .int .i64 0, .string ⟨#[]⟩, .slice none 0 0, .slice none 0 0] (HZ3.out.setAll [.int .i64 3, .int .i64 0, .string ⟨#[]⟩, .slice none 0 0, .slice none 0 0] rfl) _ rfl Tryz.underlying26 rfl (by kernel_rfl)) rfl ?_
      exact HEND.out _ (.mk 3 0 .empty [] []) _ [] l3 (!ok) (tleaf_ow _ (by decide) (by decide) (by decide)) (New.nil _ _) (HR3.out.mono (by omega)) HG3.out (Paid.leaf (by decide) HE3.out _ rfl) (TakesT.no HE3.out HC1.out) (fun _ => by first | rfl | trivial)
    have ncc : ¬ ((c.toNat : Int) = 110) := fun e => cc (UInt8.toNat_inj.1 (show c.toNat = 110 from by omega))
    by_cases cd : c = 126
    · have ci : (c.toNat : Int) = 126 := by subst cd; rfl
      have HC1 := hide (fun a r e => (HC.out a r e).trans cd)
      have HCE := hide (show l.headD 0 = 126 from HCD.out.trans cd)
      clear cd HC HCD
      rw [ci]
      go_wp2_with fail
      refine (HEAT.out _ (by decide) (by decide)).mono ?_
      rintro e w3 ⟨ok, l3, rfl, h3, he3, hg3⟩
      rw [Bool.false_or] at h3
      have HR3 := hide h3
      have HG3 := hide (only_trans HG2.out hg3)
      have HZ3 := hide (HZ2.out.grown hg3 (fun e => by injection e with e; omega))
      have HE3 := hide he3
      have hg3' := HR3.out.lt
      clear h3 he3 hg3
      have z0 := HZ3.out.cell 0
      have y0 := HZ3.out.frozen 0
      have z1 := HZ3.out.cell 1
      have y1 := HZ3.out.frozen 1
      have z2 := HZ3.out.cell 2
      have y2 := HZ3.out.frozen 2
      have z3 := HZ3.out.cell 3
      have y3 := HZ3.out.frozen 3
      have z4 := HZ3.out.cell 4
      have y4 := HZ3.out.frozen 4
      have lz := HZ3.out.lt
      go_wp2
      refine bodyPost_ret (ret_row rfl _ _ w.heap.size 26 [.int .i64 6, .int .i64 0, .string ⟨#[]⟩, .slice none 0 0, .slice none 0 0] (HZ3.out.setAll [.int .i64 6, .int .i64 0, .string ⟨#[]⟩, .slice none 0 0, .slice none 0 0] rfl) _ rfl Tryz.underlying26 rfl (by kernel_rfl)) rfl ?_
      exact HEND.out _ (.mk 6 0 .empty [] []) _ [] l3 (!ok) (tleaf_ow _ (by decide) (by decide) (by decide)) (New.nil _ _) (HR3.out.mono (by omega)) HG3.out (Paid.leaf (by decide) HE3.out _ rfl) (TakesT.tilde HE3.out HC1.out) (fun _ => by first | rfl | trivial)
    have ncd : ¬ ((c.toNat : Int) = 126) := fun e => cd (UInt8.toNat_inj.1 (show c.toNat = 126 from by omega))
    by_cases ce : c = 63
    · have ci : (c.toNat : Int) = 63 := by subst ce; rfl
      have HC1 := hide (fun a r e => (HC.out a r e).trans ce)
      have HCE := hide (show l.headD 0 = 63 from HCD.out.trans ce)
      clear ce HC HCD
      rw [ci]
      go_wp2_with fail
      refine (HEAT.out _ (by decide) (by decide)).mono ?_
      rintro e w3 ⟨ok, l3, rfl, h3, he3, hg3⟩
      rw [Bool.false_or] at h3
      have HR3 := hide h3
      have HG3 := hide (only_trans HG2.out hg3)
      have HZ3 := hide (HZ2.out.grown hg3 (fun e => by injection e with e; omega))
      have HE3 := hide he3
      have hg3' := HR3.out.lt
      clear h3 he3 hg3
      have HIK := hide (show Calls Tryz.prog 52 #[.pointer (some ⟨g, 0, none⟩), .int .i64 ((lv : Int) + 1)] w3 (TreeOutR (fun w l b => RdK w g s f' l b) g (lv + 1) l3 (!ok) w3) from by
        have h := HI.out s l3 (!ok) g (lv + 1) w3 (by omega) (by omega) HR3.out
        rw [show ((lv + 1 : Nat) : Int) = (lv : Int) + 1 by omega] at h
        exact h)
      go_wp2_with fail
      refine HIK.out.mono ?_
      rintro e w4 ⟨k, us, fq, l4, b4, rfl, ho4, hn4, hr4, hg4, hp4, ht4, hb4⟩
      have HO4 := hide ho4
      have HN4 := hide (hn4.mono (show w.heap.size + 1 ≤ w3.heap.size from HZ3.out.lt))
      have HR4 := hide hr4
      have HG4 := hide (only_trans HG3.out hg4)
      have HZ4 := hide (HZ3.out.grown hg4 (fun e => by injection e with e; omega))
      have HP4 := hide hp4
      have HT4 := hide ht4
      obtain ⟨B1, d1, B2, d2, f1, f2, rfl, k0, k1, k2, k3, k4, efq⟩ := ho4.oTree
      have HB4 := hide (show b4 = false → ok = true from fun hf => by simpa using hb4 hf)
      clear hb4 ho4 hn4 hr4 hg4 hp4 ht4 k0 k1 k2 k3 k4 efq HIK
      have z0 := HZ4.out.cell 0
      have y0 := HZ4.out.frozen 0
      have z1 := HZ4.out.cell 1
      have y1 := HZ4.out.frozen 1
      have z2 := HZ4.out.cell 2
      have y2 := HZ4.out.frozen 2
      have z3 := HZ4.out.cell 3
      have y3 := HZ4.out.frozen 3
      have z4 := HZ4.out.cell 4
      have y4 := HZ4.out.frozen 4
      have lz := HZ4.out.lt
      go_wp2
      have hRow := Row.new w4 26 [.int .i64 k.sort, .int .i64 k.num, .string k.text, .slice B1 k.names.length d1, .slice B2 k.kids.length d2]
      have ho5 := tone_ow (s := 6) (by decide) (HO4.out.alloc HN4.out.lt (.cells #[.int .i64 k.sort, .int .i64 k.num, .string k.text, .slice B1 k.names.length d1, .slice B2 k.kids.length d2] 26)) w4.heap.size hRow
      have hn5 : New (w4.alloc (.cells #[.int .i64 k.sort, .int .i64 k.num, .string k.text, .slice B1 k.names.length d1, .slice B2 k.kids.length d2] 26)) (w4.heap.size :: fq) (w.heap.size + 1) := (HN4.out.alloc _).consHiR (fun hm => Nat.lt_irrefl _ (HN4.out.lt _ hm)) lz (Unf.row hRow) hRow.lt
      have hfin := HEND.out (w4.alloc (.cells #[.int .i64 k.sort, .int .i64 k.num, .string k.text, .slice B1 k.names.length d1, .slice B2 k.kids.length d2] 26)) (.mk 6 0 .empty [] [k]) [.int .i64 6, .int .i64 0, .string ⟨#[]⟩, .slice none 0 0, .slice (some ⟨w4.heap.size, 0, none⟩) 1 1] _ l4 b4 ho5 hn5 ((HR4.out.below ((Below.refl _ _).alloc (Nat.le_refl _) _)).mono (by omega)) (only_alloc HG4.out _) (by rw [Tree.bulk_one]; exact Paid.more (by decide) HE3.out HP4.out HB4.out hd6) (TakesT.maybe HE3.out HC1.out HT4.out) (fun _ => by first | rfl | trivial)
      rw [putN_allocR _ _ _ _ lz] at hfin
      refine bodyPost_ret (ret_row rfl _ _ w.heap.size 26 [.int .i64 6, .int .i64 0, .string ⟨#[]⟩, .slice none 0 0, .slice (some ⟨w4.heap.size, 0, none⟩) 1 1] ((HZ4.out.setAll [.int .i64 6, .int .i64 0, .string ⟨#[]⟩, .slice none 0 0, .slice (some ⟨w4.heap.size, 0, none⟩) 1 1] rfl).alloc _) _ rfl Tryz.underlying26 rfl (by kernel_rfl)) rfl ?_
      exact hfin
    have nce : ¬ ((c.toNat : Int) = 63) := fun e => ce (UInt8.toNat_inj.1 (show c.toNat = 63 from by omega))
    by_cases cf : c = 91
    · have ci : (c.toNat : Int) = 91 := by subst cf; rfl
      have HC1 := hide (fun a r e => (HC.out a r e).trans cf)
      have HCE := hide (show l.headD 0 = 91 from HCD.out.trans cf)
      clear cf HC HCD
      rw [ci]
      obtain ⟨l1, hl1⟩ := head_split HCE.out (by decide)
      subst hl1
      have HMA := hide (many4_of HI.out (by omega) hlv HR2.out)
      go_wp2_with fail
      refine HMA.out.mono ?_
      rintro e w4 ⟨k, us, fq, l4, b4, rfl, ho4, hn4, hr4, hg4, hp4, ht4, hb4⟩
      have HO4 := hide ho4
      have HN4 := hide (hn4.mono (show w.heap.size + 1 ≤ w2.heap.size from HZ2.out.lt))
      have HR4 := hide hr4
      have HG4 := hide (only_trans HG2.out hg4)
      have HZ4 := hide (HZ2.out.grown hg4 (fun e => by injection e with e; omega))
      have HP4 := hide hp4
      have HT4 := hide ht4
      obtain ⟨B1, d1, B2, d2, f1, f2, rfl, k0, k1, k2, k3, k4, efq⟩ := ho4.oTree
      clear hb4 ho4 hn4 hr4 hg4 hp4 ht4 k0 k1 k2 k3 k4 efq HMA
      have z0 := HZ4.out.cell 0
      have y0 := HZ4.out.frozen 0
      have z1 := HZ4.out.cell 1
      have y1 := HZ4.out.frozen 1
      have z2 := HZ4.out.cell 2
      have y2 := HZ4.out.frozen 2
      have z3 := HZ4.out.cell 3
      have y3 := HZ4.out.frozen 3
      have z4 := HZ4.out.cell 4
      have y4 := HZ4.out.frozen 4
      have lz := HZ4.out.lt
      go_wp2
      refine bodyPost_ret (ret_row rfl _ _ w.heap.size 26 [.int .i64 k.sort, .int .i64 k.num, .string k.text, .slice B1 k.names.length d1, .slice B2 k.kids.length d2] (HZ4.out.setAll [.int .i64 k.sort, .int .i64 k.num, .string k.text, .slice B1 k.names.length d1, .slice B2 k.kids.length d2] rfl) _ rfl Tryz.underlying26 rfl (by kernel_rfl)) rfl ?_
      exact HEND.out _ k _ fq l4 b4 HO4.out HN4.out HR4.out HG4.out HP4.out HT4.out (fun _ => by first | rfl | trivial)
    have ncf : ¬ ((c.toNat : Int) = 91) := fun e => cf (UInt8.toNat_inj.1 (show c.toNat = 91 from by omega))
    by_cases cg : c = 123
    · have ci : (c.toNat : Int) = 123 := by subst cg; rfl
      have HC1 := hide (fun a r e => (HC.out a r e).trans cg)
      have HCE := hide (show l.headD 0 = 123 from HCD.out.trans cg)
      clear cg HC HCD
      rw [ci]
      obtain ⟨l1, hl1⟩ := head_split HCE.out (by decide)
      subst hl1
      have HMA := hide (many5_of HI.out (by omega) hlv HR2.out)
      go_wp2_with fail
      refine HMA.out.mono ?_
      rintro e w4 ⟨k, us, fq, l4, b4, rfl, ho4, hn4, hr4, hg4, hp4, ht4, hb4⟩
      have HO4 := hide ho4
      have HN4 := hide (hn4.mono (show w.heap.size + 1 ≤ w2.heap.size from HZ2.out.lt))
      have HR4 := hide hr4
      have HG4 := hide (only_trans HG2.out hg4)
      have HZ4 := hide (HZ2.out.grown hg4 (fun e => by injection e with e; omega))
      have HP4 := hide hp4
      have HT4 := hide ht4
      obtain ⟨B1, d1, B2, d2, f1, f2, rfl, k0, k1, k2, k3, k4, efq⟩ := ho4.oTree
      clear hb4 ho4 hn4 hr4 hg4 hp4 ht4 k0 k1 k2 k3 k4 efq HMA
      have z0 := HZ4.out.cell 0
      have y0 := HZ4.out.frozen 0
      have z1 := HZ4.out.cell 1
      have y1 := HZ4.out.frozen 1
      have z2 := HZ4.out.cell 2
      have y2 := HZ4.out.frozen 2
      have z3 := HZ4.out.cell 3
      have y3 := HZ4.out.frozen 3
      have z4 := HZ4.out.cell 4
      have y4 := HZ4.out.frozen 4
      have lz := HZ4.out.lt
      go_wp2
      refine bodyPost_ret (ret_row rfl _ _ w.heap.size 26 [.int .i64 k.sort, .int .i64 k.num, .string k.text, .slice B1 k.names.length d1, .slice B2 k.kids.length d2] (HZ4.out.setAll [.int .i64 k.sort, .int .i64 k.num, .string k.text, .slice B1 k.names.length d1, .slice B2 k.kids.length d2] rfl) _ rfl Tryz.underlying26 rfl (by kernel_rfl)) rfl ?_
      exact HEND.out _ k _ fq l4 b4 HO4.out HN4.out HR4.out HG4.out HP4.out HT4.out (fun _ => by first | rfl | trivial)
    have ncg : ¬ ((c.toNat : Int) = 123) := fun e => cg (UInt8.toNat_inj.1 (show c.toNat = 123 from by omega))
    have HC5 := hide (show ∀ a r, l = a :: r → a ≠ 34 ∧ a ≠ 121 ∧ a ≠ 110 ∧ a ≠ 126 ∧ a ≠ 63 ∧ a ≠ 91 ∧ a ≠ 123 from fun a r e => by
      have h := HC.out a r e
      subst h
      exact ⟨ca, cb, cc, cd, ce, cf, cg⟩)
    have HNU := hide (num1_any HR2.out)
    clear ca cb cc cd ce cf cg HC HCD
    go_wp2_with fail
    refine HNU.out.mono ?_
    rintro e w3 ⟨n, l3, b3, rfl, hn3, h3, ht3, hp3, hg3⟩
    have HR3 := hide h3
    have HG3 := hide (only_trans HG2.out hg3)
    have HZ3 := hide (HZ2.out.grown hg3 (fun e => by injection e with e; omega))
    have HT3 := hide ht3
    have HP3 := hide hp3
    have hg3' := HR3.out.lt
    clear h3 ht3 hp3 hg3 HNU
    have z0 := HZ3.out.cell 0
    have y0 := HZ3.out.frozen 0
    have z1 := HZ3.out.cell 1
    have y1 := HZ3.out.frozen 1
    have z2 := HZ3.out.cell 2
    have y2 := HZ3.out.frozen 2
    have z3 := HZ3.out.cell 3
    have y3 := HZ3.out.frozen 3
    have z4 := HZ3.out.cell 4
    have y4 := HZ3.out.frozen 4
    have lz := HZ3.out.lt
    go_wp2
    refine bodyPost_ret (ret_row rfl _ _ w.heap.size 26 [.int .i64 1, .int .i64 n, .string ⟨#[]⟩, .slice none 0 0, .slice none 0 0] (HZ3.out.setAll [.int .i64 1, .int .i64 n, .string ⟨#[]⟩, .slice none 0 0, .slice none 0 0] rfl) _ rfl Tryz.underlying26 rfl (by kernel_rfl)) rfl ?_
    exact HEND.out _ (.mk 1 n .empty [] []) _ [] l3 b3 (tleaf_ow _ (by decide) (wfiR (by omega) (by omega)) (by decide)) (New.nil _ _) (HR3.out.mono (by omega)) HG3.out (by rw [Tree.bulk_leaf]; have h1 := HP3.out.1; have h2 := HP3.out.2; exact ⟨by omega, by omega, fun hb => by have := h2 hb; omega⟩) (TakesT.num HT3.out HC5.out) (fun _ => by first | rfl | trivial)
theorem treeRdS_any : ∀ f, TreeRdS f
  | 0 => treeRdS_of 0 (fun f' e => by cases e)
  | f + 1 => treeRdS_of (f + 1) (fun f' e => by injection e with e; subst e; exact treeRdS_any f)
end Go.Proofs.YtnaecdoeldoipaaGreatDoor
