/-
  Reading schemas from texts: the reference's l2Kind.
-/
import Derived.Test.YtbjblchhenmgjaaRkS
import Derived.Test.YtbjblchhenmgjaaRkL
import Derived.Test.YtbjblchhenmgjaaRdrT
import Derived.Deep.RegionHeld3
import Derived.Deep.RegionLaw
import Derived.Deep.CutRange
import Derived.Deep.DeepCutAuto
set_option linter.unusedVariables false
set_option linter.unusedSimpArgs false
namespace Go.Proofs.Ytbjblchhenmgjaa
open Go.ChangeShapes Go.WideShapes Go.ChangeAt Go.RowKit

abbrev kindMk (s : Int) : Value → Value → List Value := fun a b => [.int .i64 s, a, b]
/-- a schema as it grows, in its block -/
abbrev KindAt (wr : World) (b : Nat) (s : Int) (v1 : Value) (l1 : List ByteArray) (us1 : List Value) (v2 : Value) (l2 : List Kind) (us2 : List Value) (fi2 : List Nat) : Prop :=
  Two wr b (b + 1) 47 (kindMk s) 9 1 strC v1 l1 us1 [] 47 3 Kind.cells v2 l2 us2 fi2
theorem info_Kind' : (Try.prog.info? 47).map (fun i => (i.zero, i.size, i.bytes)) = some (some (.agg #[.int .i64 0, .slice none 0 0, .slice none 0 0]), 3, 56) := by kernel_rfl
def KindOut (R : World → List UInt8 → Bool → Prop) (g lv : Nat) (l : List UInt8) (bad : Bool) (w : World) (e : Ending) (w' : World) : Prop :=
  ∃ (k : Kind) (us : List Value) (fq : List Nat) (l' : List UInt8) (bad' : Bool), e = .returned (.agg us.toArray) ∧ OwC w' k.cells us fq ∧ New w' fq w.heap.size ∧ R w' l' bad' ∧ w.grownBy w' (some g) ∧ Paid lv l k.bulk l' bad' ∧ TakesK lv l bad k l' bad' ∧ (bad' = false → bad = false)
theorem kleaf_ow (W : World) (s : Int) (hs : (Lit.int .i64 s).wf = true) : OwC W (Kind.mk s [] []).cells [.int .i64 s, .slice none 0 0, .slice none 0 0] [] :=
  OwC.mKind (x := Kind.mk s [] []) (v1 := .slice none 0 0) (v2 := .slice none 0 0) (f1 := []) (f2 := []) hs (Ow.nil_ W 1 strC) (Ow.nil_ W 3 Kind.cells)
/-- a schema with one kid, whose cells lie in a block of their own -/
theorem kone_ow {W : World} {s : Int} {k : Kind} {us : List Value} {fq : List Nat} (hs : (Lit.int .i64 s).wf = true) (ho : OwC W k.cells us fq) (g : Nat) (hr : Row W g 47 us) :
    OwC W (Kind.mk s [] [k]).cells [.int .i64 s, .slice none 0 0, .slice (some ⟨g, 0, none⟩) 1 1] (g :: fq) := by
  have h2 : Ow W (.s 3 [k].length ([k].flatMap Kind.cells)) (.slice (some ⟨g, 0, none⟩) 1 1) (g :: fq) := by
    unfold Ow
    refine ⟨by simp [Kind.cells_len], _, _, rfl, Nat.le_refl _, by unfold maxLen; omega, .inr ⟨by simp, g, 0, fq, rfl, ?_, rfl⟩⟩
    rw [List.flatMap_singleton]
    exact OwC.row _ ho (fun j u hj => by rw [Nat.zero_add, hr.cell]; exact hj)
  have h := OwC.mKind (x := Kind.mk s [] [k]) (v1 := .slice none 0 0) (f1 := []) hs (Ow.nil_ W 1 strC) h2
  rw [List.nil_append] at h
  exact h
theorem putN_alloc (o : Obj) {g : Nat} : ∀ (vs : List Value) (i : Nat) (w : World), g < w.heap.size → putN (w.alloc o) g i vs = (putN w g i vs).alloc o
  | [], _, _, _ => rfl
  | v :: r, i, w, h => by
    unfold putN
    rw [World.setCell_alloc_past _ _ _ _ h]
    exact putN_alloc o r (i + 1) _ (by simpa [World.setCell] using h)
theorem New.consHi {w : World} {fp : List Nat} {lo g : Nat} (h : New w fp lo) (hg : g ∉ fp) (hl : lo ≤ g) (hu : Unf w g) (hs : g < w.heap.size) : New w (g :: fp) lo :=
  ⟨h.fr.cons hl hs, List.nodup_cons.2 ⟨hg, h.nd⟩, fun b hb => by
    rcases List.mem_cons.1 hb with rfl | hb
    · exact hu
    · exact h.uf b hb⟩
theorem kform_ow {wr : World} {b : Nat} {s : Int} {v1 v2 : Value} {l1 : List ByteArray} {us1 : List Value} {l2 : List Kind} {us2 : List Value} {fi2 : List Nat} (hT : KindAt wr b s v1 l1 us1 v2 l2 us2 fi2) (hs : (Lit.int .i64 s).wf = true) :
    ∃ fq, OwC wr (Kind.mk s l1 l2).cells (kindMk s v1 v2) fq ∧ New wr fq (b + 1) := by
  obtain ⟨p1, p2, o1, o2, hn⟩ := hT.toOw
  exact ⟨p1 ++ p2, OwC.mKind (x := Kind.mk s l1 l2) hs o1 o2, hn⟩
theorem or_not_f {a b : Bool} (h : (!a || !b) = false) : b = true := by cases a <;> cases b <;> simp_all
theorem not_or_t {a b : Bool} (h : a = true) (k : b = true) : (!a || !b) = false := by subst h k; rfl
theorem RdK.hat {w : World} {g : Nat} {s : ByteArray} {l : List UInt8} {bad : Bool} (h : RdK w g s 0 l bad) : ∃ n, n ≤ s.size ∧ w.cell? ⟨g, 1, none⟩ = some (.int .i64 (n : Int)) := by
  obtain ⟨n, hr, _, h2, _⟩ := h
  exact ⟨n, by omega, hr.cell 1⟩
theorem RdK.len {w : World} {g : Nat} {s : ByteArray} {m : Nat} {l : List UInt8} {bad : Bool} (h : RdK w g s m l bad) : l.length ≤ 10000 := by
  obtain ⟨n, _, h1, _, _, rfl⟩ := h
  rw [List.length_drop, bl_len]
  omega
theorem RdK.zero {w : World} {g : Nat} {s : ByteArray} {m : Nat} {l : List UInt8} (h : RdK w g s m l false) : RdK w g s 0 l false := by
  obtain ⟨n, hr, h1, h2, h3, h4⟩ := h
  exact ⟨n, hr, h1, by have := h3 rfl; omega, h3, h4⟩
/-- one byte on -/
theorem RdK.next {w : World} {g : Nat} {s : ByteArray} {m : Nat} {l : List UInt8} {bad : Bool} (h : RdK w g s m l bad) (hl : bad = false → l ≠ []) :
    ∃ n : Nat, w.cell? ⟨g, 1, none⟩ = some (.int .i64 (n : Int)) ∧ w.frozen? ⟨g, 1, none⟩ = false ∧ n ≤ 20000 + m ∧ RdK (w.setCell ⟨g, 1, none⟩ (.int .i64 ((n : Int) + 1))) g s (m + 1) (l.drop 1) bad := by
  obtain ⟨n, hr, h1, h2, h3, rfl⟩ := h
  refine ⟨n, hr.cell 1, hr.frozen 1, by omega, n + 1, by rw [show ((n + 1 : Nat) : Int) = (n : Int) + 1 by omega]; exact hr.set 1 _, h1, by omega, fun hb => ?_, by rw [List.drop_drop]⟩
  refine Nat.lt_of_not_le (fun hn => hl hb ?_)
  exact drop_none s n (by omega)
def rdMeas (w : World) (g size : Nat) : Nat := match w.cell? ⟨g, 2, none⟩, w.cell? ⟨g, 1, none⟩ with
  | some (.bool false), some (.int _ i) => 1 + (size - i.toNat)
  | _, _ => 0
theorem RdK.meas {w : World} {g : Nat} {s : ByteArray} {m : Nat} {l : List UInt8} {bad : Bool} (h : RdK w g s m l bad) : rdMeas w g s.size = if bad = true then 0 else 1 + l.length := by
  obtain ⟨n, hr, h1, h2, h3, rfl⟩ := h
  unfold rdMeas
  rw [hr.cell 2, hr.cell 1]
  simp only [List.getElem?_cons_succ, List.getElem?_cons_zero]
  rw [List.length_drop, bl_len]
  cases bad
  · simp
  · simp
def KindRdS (f : Nat) : Prop := ∀ (s : ByteArray) (l : List UInt8) (bad : Bool) (g lv : Nat) (w : World), lv + f = 7 → 1 ≤ lv → RdK w g s 0 l bad →
  Calls Try.prog 94 #[.pointer (some ⟨g, 0, none⟩), .int .i64 (lv : Int)] w (KindOut (fun w l b => RdK w g s f l b) g lv l bad w)
set_option maxRecDepth 100000 in
set_option maxHeartbeats 4000000 in
theorem kindRdS_of (f : Nat) (ih : ∀ f', f = f' + 1 → KindRdS f') : KindRdS f := by
  intro s l bad g lv w hlf hlv h
  have hgw := h.lt
  have HEND := hide (fun (W : World) (k : Kind) (vs : List Value) (fq : List Nat) (l' : List UInt8) (bad' : Bool) (ho : OwC W k.cells vs fq) (hn : New W fq (w.heap.size + 1)) (hr : RdK W g s f l' bad') (hg : w.grownBy W (some g)) (hp : Paid lv l k.bulk l' bad') (ht : TakesK lv l bad k l' bad') (hbb : bad' = false → bad = false) =>
    show KindOut (fun w l b => RdK w g s f l b) g lv l bad w (.returned (.agg vs.toArray)) (putN W w.heap.size 0 vs) from by
      have hgr := setN_grown vs 0 (grown_refl W (some w.heap.size))
      have hno : w.heap.size ∉ fq := hn.out (by omega)
      exact ⟨k, vs, fq, l', bad', rfl, ho.grown hgr hn.lt hno, (hn.grown hgr (fun b e => by injection e with e; subst e; exact hno)).mono (by omega), hr.low (fin_low hg vs) hgw, fin_grown hg vs, hp, ht, hbb⟩)
  have HIH := hide ih
  have HR0 := hide h
  clear h ih
  go_enter Try.func94, Try.ntmps94
  go_upto_region 1 with fail
  generalize hw1 : w.alloc _ = w1
  have hb0 : Below w.heap.size w w1 := by rw [← hw1]; exact (Below.refl _ _).alloc (Nat.le_refl _) _
  have HZ := hide (show Row w1 w.heap.size 47 [.int .i64 0, .slice none 0 0, .slice none 0 0] from by rw [← hw1]; exact Row.new w _ _)
  have HR := hide (HR0.out.below hb0)
  have HG := hide (grownBy_below hb0 (some g))
  have hg1 := HR.out.lt
  have hz1 := HZ.out.lt
  clear hw1 hb0 HR0
  by_cases hstop : bad = true ∨ 6 < lv
  · have HRq := hide (HR.out.setBad)
    have HGq := hide (only_setCell (p := ⟨g, 2, none⟩) HG.out (.inl rfl) (.bool true))
    have HZq := hide (HZ.out.grown (only_setCell (p := ⟨g, 2, none⟩) (grown_refl _ (some g)) (.inl rfl) (.bool true)) (fun e => by injection e with e; omega))
    have hor : (bad = true) ∨ (bad = false ∧ (6 : Int) < (lv : Int)) := by
      rcases hb : bad with _ | _
      · rcases hstop with hs | hs
        · rw [hb] at hs; cases hs
        · exact .inr ⟨rfl, by omega⟩
      · exact .inl rfl
    have HT := hide (show TakesK lv l bad (.mk 0 [] []) l true from by
      rcases hor with rfl | ⟨_, h6⟩
      · exact TakesK.bad
      · exact TakesK.deep (by omega))
    obtain ⟨hbc, hbf⟩ := HR.out.cells
    have z0 := HZq.out.cell 0
    have z1 := HZq.out.cell 1
    have z2 := HZq.out.cell 2
    have y0 := HZq.out.frozen 0
    have y1 := HZq.out.frozen 1
    have y2 := HZq.out.frozen 2
    have lz := HZq.out.lt
    clear hstop
    rcases hor with rfl | ⟨rfl, hdd⟩
    all_goals
      go_wp2
      refine bodyPost_ret (ret_row rfl _ _ w.heap.size 47 [.int .i64 0, .slice none 0 0, .slice none 0 0] (HZq.out.setAll [.int .i64 0, .slice none 0 0, .slice none 0 0] rfl) _ rfl Try.underlying47 rfl (by kernel_rfl)) rfl ?_
      exact HEND.out _ (.mk 0 [] []) _ [] l true (kleaf_ow _ 0 (by decide)) (New.nil _ _) (HRq.out.mono (by omega)) HGq.out (Paid.none lv l) HT.out (fun h => by cases h)
  · obtain rfl : bad = false := by
      rcases hb : bad with _ | _
      · rfl
      · exact absurd (.inl hb) hstop
    have hd6 : lv ≤ 6 := Nat.not_lt.1 (fun hd => hstop (.inr hd))
    have hdi : ¬ ((6 : Int) < (lv : Int)) := by omega
    obtain ⟨f', rfl⟩ : ∃ f', f = f' + 1 := ⟨f - 1, by omega⟩
    have HI := hide (HIH.out f' rfl)
    obtain ⟨hbc, hbf⟩ := HR.out.cells
    have HLK := hide (look1_any HR.out (by omega))
    clear hstop HIH
    go_wp2_with fail
    refine HLK.out.mono ?_
    rintro e w2 ⟨rfl, q, hw2⟩
    have HR2 := hide (show RdK w2 g s 0 l false from by rw [hw2]; exact HR.out.drewN q)
    have HZ2 := hide (show Row w2 w.heap.size 47 [.int .i64 0, .slice none 0 0, .slice none 0 0] from by rw [hw2]; exact HZ.out.drewN q)
    have HG2 := hide (show w.grownBy w2 (some g) from by rw [hw2]; exact only_drewN HG.out q)
    obtain ⟨c, hc⟩ : ∃ c, l.headD 0 = c := ⟨_, rfl⟩
    rw [hc]
    have HC := hide (fun (a : UInt8) (r : List UInt8) (e : l = a :: r) => (show a = c from head_cons hc e))
    have hcl := c.toNat_lt
    have hg2 := HR2.out.lt
    clear hw2 hc HLK HR HZ HG hbc hbf hg1 hz1
    have HEAT := hide (fun (u : ByteArray) (h1 : 1 ≤ u.size) (h2 : u.size ≤ 100) => eat1_any HR2.out (by omega) u h1 h2)
    by_cases c1 : c = 110
    · have ci : (c.toNat : Int) = 110 := by subst c1; rfl
      have HC1 := hide (fun a r e => (HC.out a r e).trans c1)
      clear c1 HC
      rw [ci]
      go_wp2_with fail
      refine (HEAT.out _ (by decide) (by decide)).mono ?_
      rintro e w3 ⟨ok, l3, rfl, h3, he3, hg3⟩
      rw [Bool.false_or] at h3
      have HR3 := hide h3
      have HG3 := hide (only_trans HG2.out hg3)
      have HZ3 := hide (HZ2.out.grown hg3 (fun e => by injection e with e; omega))
      have HE3 := hide he3
      have hg3' := HR3.out.lt
      clear h3 he3 hg3
      have z0 := HZ3.out.cell 0
      have y0 := HZ3.out.frozen 0
      have z1 := HZ3.out.cell 1
      have y1 := HZ3.out.frozen 1
      have z2 := HZ3.out.cell 2
      have y2 := HZ3.out.frozen 2
      have lz := HZ3.out.lt
      go_wp2
      refine bodyPost_ret (ret_row rfl _ _ w.heap.size 47 [.int .i64 1, .slice none 0 0, .slice none 0 0] (HZ3.out.setAll [.int .i64 1, .slice none 0 0, .slice none 0 0] rfl) _ rfl Try.underlying47 rfl (by kernel_rfl)) rfl ?_
      exact HEND.out _ (.mk 1 [] []) _ [] l3 (!ok) (kleaf_ow _ 1 (by decide)) (New.nil _ _) (HR3.out.mono (by omega)) HG3.out (Paid.leaf (by decide) HE3.out _ rfl) (TakesK.num HE3.out HC1.out) (fun _ => by first | rfl | trivial)
    have n1 : ¬ ((c.toNat : Int) = 110) := fun e => c1 (UInt8.toNat_inj.1 (show c.toNat = 110 from by omega))
    by_cases c2 : c = 116
    · have ci : (c.toNat : Int) = 116 := by subst c2; rfl
      have HC1 := hide (fun a r e => (HC.out a r e).trans c2)
      clear c2 HC
      rw [ci]
      go_wp2_with fail
      refine (HEAT.out _ (by decide) (by decide)).mono ?_
      rintro e w3 ⟨ok, l3, rfl, h3, he3, hg3⟩
      rw [Bool.false_or] at h3
      have HR3 := hide h3
      have HG3 := hide (only_trans HG2.out hg3)
      have HZ3 := hide (HZ2.out.grown hg3 (fun e => by injection e with e; omega))
      have HE3 := hide he3
      have hg3' := HR3.out.lt
      clear h3 he3 hg3
      have z0 := HZ3.out.cell 0
      have y0 := HZ3.out.frozen 0
      have z1 := HZ3.out.cell 1
      have y1 := HZ3.out.frozen 1
      have z2 := HZ3.out.cell 2
      have y2 := HZ3.out.frozen 2
      have lz := HZ3.out.lt
      go_wp2
      refine bodyPost_ret (ret_row rfl _ _ w.heap.size 47 [.int .i64 2, .slice none 0 0, .slice none 0 0] (HZ3.out.setAll [.int .i64 2, .slice none 0 0, .slice none 0 0] rfl) _ rfl Try.underlying47 rfl (by kernel_rfl)) rfl ?_
      exact HEND.out _ (.mk 2 [] []) _ [] l3 (!ok) (kleaf_ow _ 2 (by decide)) (New.nil _ _) (HR3.out.mono (by omega)) HG3.out (Paid.leaf (by decide) HE3.out _ rfl) (TakesK.text HE3.out HC1.out) (fun _ => by first | rfl | trivial)
    have n2 : ¬ ((c.toNat : Int) = 116) := fun e => c2 (UInt8.toNat_inj.1 (show c.toNat = 116 from by omega))
    by_cases c3 : c = 102
    · have ci : (c.toNat : Int) = 102 := by subst c3; rfl
      have HC1 := hide (fun a r e => (HC.out a r e).trans c3)
      clear c3 HC
      rw [ci]
      go_wp2_with fail
      refine (HEAT.out _ (by decide) (by decide)).mono ?_
      rintro e w3 ⟨ok, l3, rfl, h3, he3, hg3⟩
      rw [Bool.false_or] at h3
      have HR3 := hide h3
      have HG3 := hide (only_trans HG2.out hg3)
      have HZ3 := hide (HZ2.out.grown hg3 (fun e => by injection e with e; omega))
      have HE3 := hide he3
      have hg3' := HR3.out.lt
      clear h3 he3 hg3
      have z0 := HZ3.out.cell 0
      have y0 := HZ3.out.frozen 0
      have z1 := HZ3.out.cell 1
      have y1 := HZ3.out.frozen 1
      have z2 := HZ3.out.cell 2
      have y2 := HZ3.out.frozen 2
      have lz := HZ3.out.lt
      go_wp2
      refine bodyPost_ret (ret_row rfl _ _ w.heap.size 47 [.int .i64 3, .slice none 0 0, .slice none 0 0] (HZ3.out.setAll [.int .i64 3, .slice none 0 0, .slice none 0 0] rfl) _ rfl Try.underlying47 rfl (by kernel_rfl)) rfl ?_
      exact HEND.out _ (.mk 3 [] []) _ [] l3 (!ok) (kleaf_ow _ 3 (by decide)) (New.nil _ _) (HR3.out.mono (by omega)) HG3.out (Paid.leaf (by decide) HE3.out _ rfl) (TakesK.flag HE3.out HC1.out) (fun _ => by first | rfl | trivial)
    have n3 : ¬ ((c.toNat : Int) = 102) := fun e => c3 (UInt8.toNat_inj.1 (show c.toNat = 102 from by omega))
    have HIK := hide (fun (W : World) (l : List UInt8) (bad : Bool) (h : RdK W g s 0 l bad) => show Calls Try.prog 94 #[.pointer (some ⟨g, 0, none⟩), .int .i64 ((lv : Int) + 1)] W (KindOut (fun w l b => RdK w g s f' l b) g (lv + 1) l bad W) from by
      have h := HI.out s l bad g (lv + 1) W (by omega) (by omega) h
      rw [show ((lv + 1 : Nat) : Int) = (lv : Int) + 1 by omega] at h
      exact h)
    by_cases c6 : c = 63
    · have ci : (c.toNat : Int) = 63 := by subst c6; rfl
      have HC1 := hide (fun a r e => (HC.out a r e).trans c6)
      clear c6 HC
      rw [ci]
      go_wp2_with fail
      refine (HEAT.out _ (by decide) (by decide)).mono ?_
      rintro e w3 ⟨ok, l3, rfl, h3, he3, hg3⟩
      rw [Bool.false_or] at h3
      have HR3 := hide h3
      have HG3 := hide (only_trans HG2.out hg3)
      have HZ3 := hide (HZ2.out.grown hg3 (fun e => by injection e with e; omega))
      have HE3 := hide he3
      have hg3' := HR3.out.lt
      clear h3 he3 hg3
      go_wp2_with fail
      refine (HIK.out _ _ _ HR3.out).mono ?_
      rintro e w4 ⟨k, us, fq, l4, b4, rfl, ho4, hn4, hr4, hg4, hp4, ht4, hb4⟩
      have HO4 := hide ho4
      have HN4 := hide (hn4.mono (show w.heap.size + 1 ≤ w3.heap.size from HZ3.out.lt))
      have HR4 := hide hr4
      have HG4 := hide (only_trans HG3.out hg4)
      have HZ4 := hide (HZ3.out.grown hg4 (fun e => by injection e with e; omega))
      have HP4 := hide hp4
      have HT4 := hide ht4
      obtain ⟨B1, d1, B2, d2, f1, f2, rfl, k0, k1, k2, efq⟩ := ho4.oKind
      have HB4 := hide (show b4 = false → ok = true from fun hf => by simpa using hb4 hf)
      clear hb4 ho4 hn4 hr4 hg4 hp4 ht4 k1 k2 efq
      have z0 := HZ4.out.cell 0
      have y0 := HZ4.out.frozen 0
      have z1 := HZ4.out.cell 1
      have y1 := HZ4.out.frozen 1
      have z2 := HZ4.out.cell 2
      have y2 := HZ4.out.frozen 2
      have lz := HZ4.out.lt
      go_wp2
      have hRow := Row.new w4 47 [.int .i64 k.sort, .slice B1 k.names.length d1, .slice B2 k.kids.length d2]
      have ho5 := kone_ow (s := 6) (by decide) (HO4.out.alloc HN4.out.lt (.cells #[.int .i64 k.sort, .slice B1 k.names.length d1, .slice B2 k.kids.length d2] 47)) w4.heap.size hRow
      have hn5 : New (w4.alloc (.cells #[.int .i64 k.sort, .slice B1 k.names.length d1, .slice B2 k.kids.length d2] 47)) (w4.heap.size :: fq) (w.heap.size + 1) := (HN4.out.alloc _).consHi (fun hm => Nat.lt_irrefl _ (HN4.out.lt _ hm)) lz (Unf.row hRow) hRow.lt
      have hfin := HEND.out (w4.alloc (.cells #[.int .i64 k.sort, .slice B1 k.names.length d1, .slice B2 k.kids.length d2] 47)) (.mk 6 [] [k]) [.int .i64 6, .slice none 0 0, .slice (some ⟨w4.heap.size, 0, none⟩) 1 1] _ l4 b4 ho5 hn5 ((HR4.out.below ((Below.refl _ _).alloc (Nat.le_refl _) _)).mono (by omega)) (only_alloc HG4.out _) (by rw [Kind.bulk_one]; exact Paid.more (by decide) HE3.out HP4.out HB4.out hd6) (TakesK.maybe HE3.out HC1.out HT4.out) (fun _ => by first | rfl | trivial)
      rw [putN_alloc _ _ _ _ lz] at hfin
      refine bodyPost_ret (ret_row rfl _ _ w.heap.size 47 [.int .i64 6, .slice none 0 0, .slice (some ⟨w4.heap.size, 0, none⟩) 1 1] ((HZ4.out.setAll [.int .i64 6, .slice none 0 0, .slice (some ⟨w4.heap.size, 0, none⟩) 1 1] rfl).alloc _) _ rfl Try.underlying47 rfl (by kernel_rfl)) rfl ?_
      exact hfin
    have n6 : ¬ ((c.toNat : Int) = 63) := fun e => c6 (UInt8.toNat_inj.1 (show c.toNat = 63 from by omega))
    by_cases c4 : c = 91
    · have ci : (c.toNat : Int) = 91 := by subst c4; rfl
      have HC1 := hide (fun a r e => (HC.out a r e).trans c4)
      clear c4 HC
      rw [ci]
      go_wp2_with fail
      refine (HEAT.out _ (by decide) (by decide)).mono ?_
      rintro e w3 ⟨ok, l3, rfl, h3, he3, hg3⟩
      rw [Bool.false_or] at h3
      have HR3 := hide h3
      have HG3 := hide (only_trans HG2.out hg3)
      have HZ3 := hide (HZ2.out.grown hg3 (fun e => by injection e with e; omega))
      have HE3 := hide he3
      have hg3' := HR3.out.lt
      clear h3 he3 hg3
      go_wp2_with fail
      refine (HIK.out _ _ _ HR3.out).mono ?_
      rintro e w4 ⟨k, us, fq, l4, b4, rfl, ho4, hn4, hr4, hg4, hp4, ht4, hb4⟩
      have HO4 := hide ho4
      have HN4 := hide (hn4.mono (show w.heap.size + 1 ≤ w3.heap.size from HZ3.out.lt))
      have HR4 := hide hr4
      have HG4 := hide (only_trans HG3.out hg4)
      have HZ4 := hide (HZ3.out.grown hg4 (fun e => by injection e with e; omega))
      have HP4 := hide hp4
      have HT4 := hide ht4
      obtain ⟨B1, d1, B2, d2, f1, f2, rfl, k0, k1, k2, efq⟩ := ho4.oKind
      have HB4 := hide (show b4 = false → ok = true from fun hf => by simpa using hb4 hf)
      clear hb4 ho4 hn4 hr4 hg4 hp4 ht4 k1 k2 efq
      go_upto_region 20 with fail
      generalize hw5 : World.alloc _ _ = w5
      have lz4 := HZ4.out.lt
      have hbA : Below w4.heap.size w4 (w4.alloc (.cells #[.int .i64 k.sort, .slice B1 k.names.length d1, .slice B2 k.kids.length d2] 47)) := (Below.refl _ _).alloc (Nat.le_refl _) _
      have hbB : Below w4.heap.size w4 w5 := by rw [← hw5]; exact hbA.alloc (by rw [World.size_alloc]; omega) _
      have HRow5 := hide (show Row w5 w4.heap.size 47 [.int .i64 k.sort, .slice B1 k.names.length d1, .slice B2 k.kids.length d2] from by rw [← hw5]; exact (Row.new w4 _ _).alloc _)
      have HBox5 := hide (show Row w5 (w4.heap.size + 1) 47 [.int .i64 4, .slice none 0 0, .slice (some ⟨w4.heap.size, 0, none⟩) 1 1] from by
        have h := Row.new (w4.alloc (.cells #[.int .i64 k.sort, .slice B1 k.names.length d1, .slice B2 k.kids.length d2] 47)) 47 [.int .i64 4, .slice none 0 0, .slice (some ⟨w4.heap.size, 0, none⟩) 1 1]
        rw [World.size_alloc] at h
        rw [← hw5]
        exact h)
      have HO5 := hide (HO4.out.below hbB HN4.out.lt)
      have HN5 := hide (HN4.out.below hbB HN4.out.lt)
      have HR5 := hide (HR4.out.below hbB)
      have HG5 := hide (only_low HG4.out hbB (Nat.le_of_lt lz4))
      have HZ5 := hide (HZ4.out.below hbB HZ4.out.lt)
      have HL4 := hide (show ∀ x ∈ fq, x < w4.heap.size from HN4.out.lt)
      have hEq := hide (eat1_any HR5.out (by omega) ⟨#[93]⟩ (by decide) (by decide))
      have hg4 : g < w4.heap.size := HR4.out.lt
      clear hw5 hbA hbB HO4 HN4 HR4 HG4 HZ4
      go_wp2_with fail
      refine hEq.out.mono ?_
      rintro e w6 ⟨ok6, l6, rfl, h6, he6, hg6⟩
      have HRow6 := hide (HRow5.out.grown hg6 (fun e => by injection e with e; omega))
      have HBox6 := hide (HBox5.out.grown hg6 (fun e => by injection e with e; omega))
      have HO6 := hide (HO5.out.grown hg6 HN5.out.lt (HN5.out.out (by omega)))
      have HN6 := hide (HN5.out.grown hg6 (fun b e => by injection e with e; subst e; exact HN5.out.out (by omega)))
      have HR6 := hide h6
      have HG6 := hide (only_trans HG5.out hg6)
      have HZ6 := hide (HZ5.out.grown hg6 (fun e => by injection e with e; omega))
      have HE6 := hide he6
      clear h6 hg6 he6 HRow5 HBox5 HO5 HN5 HR5 HG5 HZ5 hEq
      have z0 := HZ6.out.cell 0
      have y0 := HZ6.out.frozen 0
      have z1 := HZ6.out.cell 1
      have y1 := HZ6.out.frozen 1
      have z2 := HZ6.out.cell 2
      have y2 := HZ6.out.frozen 2
      have lz := HZ6.out.lt
      have q0 := HBox6.out.cell 0
      have q1 := HBox6.out.cell 1
      have q2 := HBox6.out.cell 2
      have lq := HBox6.out.lt
      go_wp2
      refine bodyPost_ret (ret_row rfl _ _ w.heap.size 47 [.int .i64 4, .slice none 0 0, .slice (some ⟨w4.heap.size, 0, none⟩) 1 1] (HZ6.out.setAll [.int .i64 4, .slice none 0 0, .slice (some ⟨w4.heap.size, 0, none⟩) 1 1] rfl) _ rfl Try.underlying47 rfl (by kernel_rfl)) rfl ?_
      exact HEND.out _ (.mk 4 [] [k]) _ _ l6 (b4 || !ok6) (kone_ow (by decide) HO6.out w4.heap.size HRow6.out) (HN6.out.consHi (fun hm => Nat.lt_irrefl _ (HL4.out _ hm)) lz4 (Unf.row HRow6.out) HRow6.out.lt) (HR6.out.mono (by omega)) HG6.out (by rw [Kind.bulk_one]; exact (Paid.more (by decide) HE3.out HP4.out HB4.out hd6).shut HE6.out) (TakesK.list HE3.out HC1.out HT4.out HE6.out) (fun _ => by first | rfl | trivial)
    have n4 : ¬ ((c.toNat : Int) = 91) := fun e => c4 (UInt8.toNat_inj.1 (show c.toNat = 91 from by omega))
    have HC5 := hide (show ∀ a r, l = a :: r → a ≠ 110 ∧ a ≠ 116 ∧ a ≠ 102 ∧ a ≠ 63 ∧ a ≠ 91 from fun a r e => by
      have h := HC.out a r e
      subst h
      exact ⟨c1, c2, c3, c6, c4⟩)
    obtain ⟨ia, hia, ha0, ha1, ha2⟩ := info_parts info_string
    obtain ⟨ib, hib, hb0, hb1, hb2⟩ := info_parts info_Kind'
    have HIa := hide hia
    have HIb := hide hib
    clear hia hib c1 c2 c3 c6 c4 HC
    go_wp2_with fail
    refine (HEAT.out _ (by decide) (by decide)).mono ?_
    rintro e w3 ⟨ok, l3, rfl, h3, he3, hg3⟩
    rw [Bool.false_or] at h3
    have HR3 := hide h3
    have HG3 := hide (only_trans HG2.out hg3)
    have HZ3 := hide (HZ2.out.grown hg3 (fun e => by injection e with e; omega))
    have HE3 := hide he3
    have hg3' := HR3.out.lt
    clear h3 he3 hg3
    go_upto_region 24 with fail
    generalize hw4 : World.alloc _ _ = w4
    have hbA : Below w3.heap.size w3 w4 := by rw [← hw4]; exact (Below.refl _ _).alloc (Nat.le_refl _) _
    have HT4 := hide (show KindAt w4 w3.heap.size 5 (.slice none 0 0) [] [] (.slice none 0 0) [] [] [] from ⟨by rw [← hw4]; exact Row.new w3 _ _, OwS.nil _ _ _ _ _, OwS.nil _ _ _ _ _, Nat.lt_succ_self _, fun g h => (by cases h), fun g h => (by cases h), fun g h => (by cases h), fun g h => (by cases h)⟩)
    have HR4 := hide ((HR3.out.below hbA).mono (Nat.zero_le f'))
    have HG4 := hide (only_low HG3.out hbA (Nat.le_of_lt HZ3.out.lt))
    have HZ4 := hide (HZ3.out.below hbA HZ3.out.lt)
    have hbw : w.heap.size < w3.heap.size := HZ3.out.lt
    have hl3b : l3.length ≤ 10000 := HR3.out.len
    have HF4 := hide (FormL.start (lv := lv) HE3.out)
    clear hw4 hbA HR3 HG3 HZ3 n1 n2 n3 n6 n4
    go_loopw [] (fun wr => ∃ (ns : List ByteArray) (ks : List Kind) (lx : List UInt8) (bx : Bool) (B1 : Option Addr) (m1 d1 : Nat) (us1 : List Value) (B2 : Option Addr) (m2 d2 : Nat) (us2 : List Value) (fi2 : List Nat), KindAt wr w3.heap.size 5 (.slice B1 m1 d1) ns us1 (.slice B2 m2 d2) ks us2 fi2 ∧ RdK wr g s f' lx bx ∧ ns.length = ks.length ∧ PaidF lv l3 (bulkStrs ns + ks.length + Kind.bulkS ks) lx bx ∧ FormL lv l ks.isEmpty bx ns ks lx ∧ (bx = false → ok = true) ∧ w.grownBy wr (some g) ∧ Row wr w.heap.size 47 [.int .i64 0, .slice none 0 0, .slice none 0 0]) (fun wr => rdMeas wr g s.size)
    case atStart => exact ⟨[], [], l3, !ok, none, 0, 0, [], none, 0, 0, [], [], HT4.out, HR4.out, rfl, PaidF.start _ _ _, HF4.out, (fun h => by simpa using h), HG4.out, HZ4.out⟩
    case round =>
      obtain ⟨ns, ks, lx, bx, B1, m1, d1, us1, B2, m2, d2, us2, fi2, hT, hR, hln, hP, hF, hO, hG, hZ⟩ := hrel
      have HT := hide hT
      have HR := hide hR
      have HP := hide hP
      have HF := hide hF
      have HO := hide hO
      have HG := hide hG
      have HZ := hide hZ
      have HM := hide hR.meas
      have HLN := hide hln
      obtain ⟨hbc, hbf⟩ := hR.cells
      have lgr := hR.lt
      have lq := hT.box.lt
      clear hT hR hP hF hO hG hZ hln HT4 HR4 HG4 HZ4 HF4
      rcases bx with _ | _
      rotate_left
      · obtain ⟨wl, rfl⟩ : ∃ W, W = wr := ⟨_, rfl⟩
        obtain ⟨np, x1, x1f, xb, hnx⟩ := HR.out.next (fun h => by cases h)
        have HRx := hide hnx
        have hgrx : wl.grownBy (wl.setCell ⟨g, 1, none⟩ (.int .i64 ((np : Int) + 1))) (some g) := grownBy_setCell wl ⟨g, 1, none⟩ _
        have HTx := hide (HT.out.far hgrx (by omega))
        have HZx := hide (HZ.out.grown hgrx (fun e => by injection e with e; omega))
        have HGx := hide (only_trans HG.out hgrx)
        clear hnx hgrx
        have z0 := HZx.out.cell 0
        have y0 := HZx.out.frozen 0
        have z1 := HZx.out.cell 1
        have y1 := HZx.out.frozen 1
        have z2 := HZx.out.cell 2
        have y2 := HZx.out.frozen 2
        have lz := HZx.out.lt
        have q0 := HTx.out.box.cell 0
        have q1 := HTx.out.box.cell 1
        have q2 := HTx.out.box.cell 2
        have lqx := HTx.out.box.lt
        go_wp2
        obtain ⟨fq, ho, hnw⟩ := kform_ow HTx.out (by decide)
        refine bodyPost_ret (ret_row rfl _ _ w.heap.size 47 (kindMk 5 (.slice B1 m1 d1) (.slice B2 m2 d2)) (HZx.out.setAll (kindMk 5 (.slice B1 m1 d1) (.slice B2 m2 d2)) rfl) _ rfl Try.underlying47 rfl (by kernel_rfl)) rfl ?_
        exact HEND.out _ (.mk 5 ns ks) _ fq (lx.drop 1) true ho (hnw.mono (by omega)) HRx.out HGx.out (by rw [Kind.bulk_form]; exact PaidF.done HE3.out HP.out (by rw [List.length_drop]; omega) (fun h => by cases h)) (HF.out.done (fun h => by cases h) HC5.out) (fun _ => by first | rfl | trivial)
      have HLK := hide (look1_any HR.out (by omega))
      have HOK := hide (HO.out rfl)
      go_wp2_with fail
      refine HLK.out.mono ?_
      rintro e wl ⟨rfl, q, hwl⟩
      have HT := hide (show KindAt wl w3.heap.size 5 (.slice B1 m1 d1) ns us1 (.slice B2 m2 d2) ks us2 fi2 from by rw [hwl]; exact HT.out.drewN q)
      have HR := hide (show RdK wl g s f' lx false from by rw [hwl]; exact HR.out.drewN q)
      have HZ := hide (show Row wl w.heap.size 47 [.int .i64 0, .slice none 0 0, .slice none 0 0] from by rw [hwl]; exact HZ.out.drewN q)
      have HG := hide (show w.grownBy wl (some g) from by rw [hwl]; exact only_drewN HG.out q)
      obtain ⟨hbc, hbf⟩ := HR.out.cells
      have lgr := HR.out.lt
      have lq := HT.out.box.lt
      obtain ⟨c, hc⟩ : ∃ c, lx.headD 0 = c := ⟨_, rfl⟩
      rw [hc]
      have HCX := hide hc
      have hcl := c.toNat_lt
      clear hwl hc HLK
      by_cases ce : c = 125
      · have ci : (c.toNat : Int) = 125 := by subst ce; rfl
        have hlx : ∃ r, lx = 125 :: r := by
          match lx, HCX.out with
          | [], h => subst ce; exact absurd h (by decide)
          | a :: r, h => exact ⟨r, by rw [← ce, ← h]; rfl⟩
        obtain ⟨r, rfl⟩ := hlx
        clear ce
        rw [ci]
        obtain ⟨np, x1, x1f, xb, hnx⟩ := HR.out.next (fun _ h => by cases h)
        have HRx := hide hnx
        have hgrx : wl.grownBy (wl.setCell ⟨g, 1, none⟩ (.int .i64 ((np : Int) + 1))) (some g) := grownBy_setCell wl ⟨g, 1, none⟩ _
        have HTx := hide (HT.out.far hgrx (by omega))
        have HZx := hide (HZ.out.grown hgrx (fun e => by injection e with e; omega))
        have HGx := hide (only_trans HG.out hgrx)
        clear hnx hgrx
        have z0 := HZx.out.cell 0
        have y0 := HZx.out.frozen 0
        have z1 := HZx.out.cell 1
        have y1 := HZx.out.frozen 1
        have z2 := HZx.out.cell 2
        have y2 := HZx.out.frozen 2
        have lz := HZx.out.lt
        have q0 := HTx.out.box.cell 0
        have q1 := HTx.out.box.cell 1
        have q2 := HTx.out.box.cell 2
        have lqx := HTx.out.box.lt
        go_wp2
        obtain ⟨fq, ho, hnw⟩ := kform_ow HTx.out (by decide)
        refine bodyPost_ret (ret_row rfl _ _ w.heap.size 47 (kindMk 5 (.slice B1 m1 d1) (.slice B2 m2 d2)) (HZx.out.setAll (kindMk 5 (.slice B1 m1 d1) (.slice B2 m2 d2)) rfl) _ rfl Try.underlying47 rfl (by kernel_rfl)) rfl ?_
        exact HEND.out _ (.mk 5 ns ks) _ fq ((125 :: r).drop 1) false ho (hnw.mono (by omega)) HRx.out HGx.out (by rw [Kind.bulk_form]; exact PaidF.done HE3.out HP.out (by rw [List.length_drop]; omega) (fun _ => ⟨HOK.out, by simp⟩)) (HF.out.done (fun _ => rfl) HC5.out) (fun _ => by first | rfl | trivial)
      have ci : ¬ ((c.toNat : Int) = 125) := fun e => ce (UInt8.toNat_inj.1 (show c.toNat = 125 from by omega))
      have HNE := hide (show ∀ r, lx ≠ 125 :: r from fun r e => ce (by have h := HCX.out; rw [e] at h; exact h.symm))
      have HR0 := hide HR.out.zero
      clear ce
      obtain ⟨E1, e1, hv1⟩ := HT.out.one.form
      obtain ⟨E2, e2, hv2⟩ := HT.out.two.form
      injection hv1 with hv1a hv1b hv1c
      injection hv2 with hv2a hv2b hv2c
      subst hv1a hv1b hv1c hv2a hv2b hv2c
      have t2 : wl.cell? ⟨w3.heap.size, 2, none⟩ = some (.slice B2 ks.length d2) := HT.out.box.cell 2
      by_cases hk0 : ks.length = 0
      case' pos =>
        have hks : ks = [] := List.eq_nil_of_length_eq_zero hk0
        have hki : ¬ ((0 : Int) < (ks.length : Int)) := by omega
        obtain ⟨ok1, hok1⟩ : ∃ b, b = true := ⟨_, rfl⟩
        obtain ⟨l2, hl2⟩ : ∃ l2, l2 = lx := ⟨_, rfl⟩
        have H1 := hide (show (ks.isEmpty = true ∧ l2 = lx ∧ ok1 = true) ∨ (ks.isEmpty = false ∧ Eaten [44] lx ok1 l2) from .inl ⟨by rw [hks]; rfl, hl2, hok1⟩)
        have H2L := hide (show l2.length ≤ lx.length from by rw [hl2]; exact Nat.le_refl _)
        have HR5 := hide (show RdK wl g s 0 l2 (!ok1) from by rw [hl2, hok1]; exact HR0.out)
        have HT5 := HT
        have HG5 := HG
        have HZ5 := HZ
        clear hks hok1 hl2 HR HR0 HT HG HZ
        go_upto_region 27 with fail
        obtain ⟨w5, rfl⟩ : ∃ W, W = wl := ⟨_, rfl⟩
        clear hk0 hki t2
        skip
      case' neg =>
        have hki : (0 : Int) < (ks.length : Int) := by omega
        have HEQ := hide (eat1_any HR0.out (by omega) ⟨#[44]⟩ (by decide) (by decide))
        go_wp2_with fail
        refine HEQ.out.mono ?_
        rintro e w5 ⟨ok1, l2, rfl, h5, he5, hg5⟩
        rw [Bool.false_or] at h5
        have H1 := hide (show (ks.isEmpty = true ∧ l2 = lx ∧ ok1 = true) ∨ (ks.isEmpty = false ∧ Eaten [44] lx ok1 l2) from .inr ⟨by cases ks with | nil => exact absurd rfl hk0 | cons a b => rfl, he5⟩)
        have H2L := hide he5.le
        have HT5 := hide (HT.out.far hg5 (by omega))
        have HR5 := hide h5
        have HG5 := hide (only_trans HG.out hg5)
        have HZ5 := hide (HZ.out.grown hg5 (fun e => by injection e with e; omega))
        go_upto_region 27 with fail
        clear hk0 hki h5 he5 hg5 HEQ t2 HT HR HZ HG HR0
        skip
      all_goals
        have lq5 := HT5.out.box.lt
        have lg5 := HR5.out.lt
        have hln5 : ns.length ≤ 100000 := by have h := HP.out.2.2 rfl; have hl := HP.out.1; unfold bulkStrs at h; have h3 := hl3b; omega
        have hlk5 : ks.length ≤ 100000 := by have := HLN.out; omega
        have t1 : w5.cell? ⟨w3.heap.size, 1, none⟩ = some (.slice B1 ns.length d1) := HT5.out.box.cell 1
        have hszA : w3.heap.size + 1 ≤ w5.heap.size := HT5.out.box.lt
        have HNM := hide (fun (W : World) (h : RdK W g s 0 l2 (!ok1)) => name1_any h (by omega) h.hat)
        go_cut [] from 62 to 95 (fun wx => ∃ (x : ByteArray) (l4 : List UInt8) (C1 : Option Addr) (p1 q1 : Nat) (us1' : List Value), KindAt wx w3.heap.size 5 (.slice C1 p1 q1) (ns ++ [x]) us1' (.slice B2 ks.length d2) ks us2 fi2 ∧ RdK wx g s 0 l4 (!ok1) ∧ Named l2 x l4 ∧ x.size ≤ 10000 ∧ w.grownBy wx (some g) ∧ Row wx w.heap.size 47 [.int .i64 0, .slice none 0 0, .slice none 0 0])
        case first =>
          go_region_law (first | (refine step_app (by rfl) _ _ 23 (by rfl) ia _ 16 Try.underlying23 HIa.out ha0 ha1 ha2 rfl (by decide) strC_len (by rfl) HT7.out.one [x] (HDS.out _) (by exact New.nil _ _) (fun g _ hg => by cases hg) _ 1 1 (by rfl) rfl (SrcAt.new w6 _ _ _ _) (by omega) (by decide) (by rw [World.size_alloc]; omega) ?_; intro A' n' c' w8 hn8 hown8 hgb8; have HG8 := hide hgb8; have HN8 := hide hown8; have r8 := HT7.out.row1 hgb8; have q8 : w8.cell? ⟨w3.heap.size, 1, none⟩ = some (.slice B1 ns.length d1) := r8.cell 1; have f8 : w8.frozen? ⟨w3.heap.size, 1, none⟩ = false := r8.frozen 1; clear hown8 hgb8 r8 hn8) | (go_simp; go_at_call 179; refine (HNM.out _ (HR5.out.drewN 1)).mono ?_; rintro e w6 ⟨x, l6, rfl, hs6, hr6, hnm6, hg6⟩; have HR6 := hide hr6; have HG6 := hide (only_trans (only_drewN HG5.out 1) hg6); have HNM6 := hide hnm6; have HZ6 := hide ((HZ5.out.drewN 1).grown hg6 (fun e => by injection e with e; omega)); have hz6 : w5.heap.size ≤ w6.heap.size := hg6.size; have HT6 := hide ((HT5.out.drewN 1).far hg6 (by omega)); have t1c : w6.cell? ⟨w3.heap.size, 1, none⟩ = some (.slice B1 ns.length d1) := HT6.out.box.cell 1; have lt6 := HT6.out.box.lt; have HT7 := hide (HT6.out.alloc (.cells #[.string x] 9)); have HDS := hide (fun W => show OwC W ([x].flatMap strC) [.string x] [] from ⟨[], [], ⟨rfl, show x.size ≤ maxLen by (unfold maxLen; omega), rfl⟩, rfl, rfl⟩); clear hr6 hg6 hnm6))
          all_goals
            have hfr : ∀ u, Below w.heap.size w6 (w8.setCell ⟨w3.heap.size, 1, none⟩ u) := fun u => ((Below.refl w.heap.size w6).alloc (by omega) _).trans (HT7.out.frame1 HG8.out (by rw [World.size_alloc]; omega) 1 u (by omega))
            go_wp2_with fail
            go_meet
            exact ⟨x, l6, A', n', c', us1 ++ [.string x], HT7.out.put1 HG8.out HN8.out 1 rfl (fun g hg => by cases hg), HR6.out.low (hfr _) hgw, HNM6.out, hs6, only_low HG6.out (hfr _) (Nat.le_refl _), Row.far (p := ⟨w3.heap.size, 1, none⟩) (HG8.out.row (HZ6.out.alloc _) (HT7.out.one.low (by omega))) (Nat.ne_of_lt hbw) _⟩
        case rest =>
          clear t1 hszA HNM
          obtain ⟨x, l4, C1, p1, q1, us1', hT, hR, hnm, hxs, hG, hZ⟩ := hcut
          have HTc := hide hT
          have HNMc := hide hnm
          have HGc := hide hG
          have HZc := hide hZ
          have HEQ := hide (eat1_any hR (by omega) ⟨#[58]⟩ (by decide) (by decide))
          have lgc := hR.lt
          clear hT hR hnm hG hZ
          go_wp2_with fail
          refine HEQ.out.mono ?_
          rintro e w7 ⟨ok2, l7, rfl, h7, he7, hg7⟩
          have HTd := hide (HTc.out.far hg7 (by omega))
          have HRd := hide h7
          have HGd := hide (only_trans HGc.out hg7)
          have HZd := hide (HZc.out.grown hg7 (fun e => by injection e with e; omega))
          have HEd := hide he7
          have t2 : w7.cell? ⟨w3.heap.size, 2, none⟩ = some (.slice B2 ks.length d2) := HTd.out.box.cell 2
          have hszA : w3.heap.size + 1 ≤ w7.heap.size := HTd.out.box.lt
          have lg7 := HRd.out.lt
          have hwd : IntKind.i64.wrap ((lv : Int) + 1) = (lv : Int) + 1 := wrapI _ (by omega) (by omega)
          clear h7 he7 hg7 HEQ HTc HGc HZc
          go_wp2
          go_region_law (first | (refine step_app (by rfl) _ _ 45 (by rfl) ib _ 56 Try.underlying45 HIb.out hb0 hb1 hb2 rfl (by decide) Kind.cells_len (by rfl) HT7.out.two [k] HXO.out HNA.out HNO.out _ 1 1 (by rfl) rfl (SrcAt.new w6 _ _ _ _) HLB.out (by decide) HSB.out ?_; intro A' n' c' w8 hn8 hown8 hgb8; have HG8 := hide hgb8; have HN8 := hide hown8; have r8 := HT7.out.row2 hgb8; have q8 : w8.cell? ⟨w3.heap.size, 2, none⟩ = some (.slice B2 ks.length d2) := r8.cell 2; have f8 : w8.frozen? ⟨w3.heap.size, 2, none⟩ = false := r8.frozen 2; have HNN8 := hide hn8; clear hown8 hgb8 r8 hn8) | (go_simp; go_at_call 94; have hh := HIK.out w7.drew _ _ (HRd.out.drewN 1); refine hh.mono ?_; clear hh; rintro e w6 ⟨k, us6, fq6, l6, b6, rfl, ho6, hn6, hr6, hg6, hp6, htk6, hb6⟩; have HO6 := hide ho6; have HN6 := hide hn6; have HR6 := hide hr6; have HG6 := hide (only_trans (only_drewN HGd.out 1) hg6); have HP6 := hide hp6; have HTK6 := hide htk6; have HB6 := hide hb6; have HZ6 := hide ((HZd.out.drewN 1).grown hg6 (fun e => by injection e with e; omega)); have hs6 : w7.heap.size ≤ w6.heap.size := hg6.size; obtain ⟨E1, e1, E2, e2, g1, g2, rfl, k0, k1, k2, efq⟩ := ho6.oKind; have HT6 := hide ((HTd.out.drewN 1).far hg6 (by omega)); have t2c : w6.cell? ⟨w3.heap.size, 2, none⟩ = some (.slice B2 ks.length d2) := HT6.out.box.cell 2; have lt6 := HT6.out.box.lt; have HT7 := hide (HT6.out.alloc (.cells #[.int .i64 k.sort, .slice E1 k.names.length e1, .slice E2 k.kids.length e2] 47)); have HO7 := hide (HO6.out.alloc HN6.out.lt (.cells #[.int .i64 k.sort, .slice E1 k.names.length e1, .slice E2 k.kids.length e2] 47)); have HN7 := hide (HN6.out.alloc (.cells #[.int .i64 k.sort, .slice E1 k.names.length e1, .slice E2 k.kids.length e2] 47)); have hn6' : New w6 fq6 w7.heap.size := hn6; have HN6 := hide hn6'; have HNA := hide (show New (w6.alloc (.cells #[.int .i64 k.sort, .slice E1 k.names.length e1, .slice E2 k.kids.length e2] 47)) (fi2 ++ fq6) (w3.heap.size + 1) from New.app HT7.out.two.new (HN6.out.alloc _) HTd.out.two.new.lt hszA); have HXO := hide (show OwC (w6.alloc (.cells #[.int .i64 k.sort, .slice E1 k.names.length e1, .slice E2 k.kids.length e2] 47)) ([k].flatMap Kind.cells) [.int .i64 k.sort, .slice E1 k.names.length e1, .slice E2 k.kids.length e2] fq6 from by rw [List.flatMap_singleton]; exact HO7.out); have HNO := hide (show ∀ g, (Value.slice B2 ks.length d2).ownBlock = some g → g ∉ fq6 from fun g e hm => absurd (HTd.out.two.lt g e) (Nat.not_lt.2 (HN6.out.fr g hm).1)); have HLB := hide (show ks.length + 1 ≤ 1099511627776 from by omega); have HSB := hide (show w3.heap.size + 1 ≤ (w6.alloc (.cells #[.int .i64 k.sort, .slice E1 k.names.length e1, .slice E2 k.kids.length e2] 47)).heap.size from by rw [World.size_alloc]; omega); clear ho6 hn6 hn6' hr6 hg6 hp6 htk6 hb6 k1 k2 efq HN7))
          all_goals
            have hfr : ∀ u, Below w.heap.size w6 (w8.setCell ⟨w3.heap.size, 2, none⟩ u) := fun u => ((Below.refl w.heap.size w6).alloc (by omega) _).trans (HT7.out.frame2 HG8.out (by rw [World.size_alloc]; omega) 2 u (by omega))
            have HF9 := hide (fun W (hW : W = w8.setCell ⟨w3.heap.size, 2, none⟩ (.slice A' n' c')) => show KindAt W w3.heap.size 5 (.slice C1 p1 q1) (ns ++ [x]) us1' (.slice A' n' c') (ks ++ [k]) (us2 ++ [.int .i64 k.sort, .slice E1 k.names.length e1, .slice E2 k.kids.length e2]) (fi2 ++ fq6) ∧ RdK W g s f' l6 b6 ∧ w.grownBy W (some g) ∧ Row W w.heap.size 47 [.int .i64 0, .slice none 0 0, .slice none 0 0] from by
              subst hW
              refine ⟨HT7.out.put2 HG8.out HN8.out 2 rfl (fun g hg => ?_), HR6.out.low (hfr _) hgw, only_low HG6.out (hfr _) (Nat.le_refl _), ?_⟩
              · rcases List.mem_append.1 hg with hg | hg
                · exact .inl hg
                · exact .inr ⟨fun e => absurd (HTd.out.one.lt g e) (Nat.not_lt.2 (HN6.out.fr g hg).1), fun h => by cases h⟩
              · exact Row.far (p := ⟨w3.heap.size, 2, none⟩) (HG8.out.row (HZ6.out.alloc _) (HT7.out.two.low (by omega))) (Nat.ne_of_lt hbw) _)
            have HFS := hide (HF.out.step HNE.out H1.out HNMc.out HEd.out (fun e1 e2 => not_or_t e1 e2) HTK6.out)
            have h1 : l2 = bl x ++ l4 := HNMc.out.1
            have h2 : Eaten [58] l4 ok2 l7 := HEd.out
            have h3 := HP6.out
            have h4 : b6 = false → ok2 = true := fun e => or_not_f (HB6.out e)
            have h5 := @PaidF.step lv l3 ok2 _ _ lx l2 l4 l7 l6 x false b6 HP.out H2L.out h1 h2 h3 h4 hd6
            have HPS := hide (show PaidF lv l3 (bulkStrs (ns ++ [x]) + (ks ++ [k]).length + Kind.bulkS (ks ++ [k])) l6 b6 from by
              have e : bulkStrs (ns ++ [x]) + (ks ++ [k]).length + Kind.bulkS (ks ++ [k]) = bulkStrs ns + ks.length + Kind.bulkS ks + (1 + x.size) + 1 + k.bulk := by
                rw [bulkStrs_snoc, kbulkS_snoc, List.length_append, List.length_singleton]
                omega
              rw [e]
              exact h5)
            have HLE := hide (show b6 = false → l6.length < lx.length from fun e => by
              have a1 := (h3.2.2 e).1
              have a2 := h2.le
              have a3 := congrArg List.length h1
              rw [List.length_append] at a3
              have a4 := H2L.out
              omega)
            have HFE := hide (show FormL lv l (ks ++ [k]).isEmpty b6 (ns ++ [x]) (ks ++ [k]) l6 from by
              rw [show (ks ++ [k]).isEmpty = false from by simp]
              exact HFS.out)
            have HLE2 := hide (show (ns ++ [x]).length = (ks ++ [k]).length from by rw [List.length_append, List.length_append, HLN.out]; rfl)
            clear hfr h1 h2 h3 h4 h5
            go_wp2
            refine ⟨⟨ns ++ [x], ks ++ [k], l6, b6, C1, p1, q1, us1', A', n', c', _, _, (HF9.out _ rfl).1, (HF9.out _ rfl).2.1, HLE2.out, HPS.out, HFE.out, (fun _ => HOK.out), (HF9.out _ rfl).2.2.1, (HF9.out _ rfl).2.2.2⟩, ?_⟩
            rw [(HF9.out _ rfl).2.1.meas, HM.out]
            have h := HLE.out
            rcases b6 with _ | _
            · have := h rfl
              rw [if_neg (by decide), if_neg (by decide)]
              omega
            · rw [if_pos rfl, if_neg (by decide)]
              omega
theorem kindRdS_any : ∀ f, KindRdS f
  | 0 => kindRdS_of 0 (fun f' e => by cases e)
  | f + 1 => kindRdS_of (f + 1) (fun f' e => by injection e with e; subst e; exact kindRdS_any f)
end Go.Proofs.Ytbjblchhenmgjaa
