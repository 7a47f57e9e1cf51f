/-
  The draws of the reference: bytes of an event, one in three bent. Printed by gen/dunpack.py.
-/
import Derived.Deep.RegionHeld3
import Derived.Deep.Cut
import Derived.Test.YtnaecdoeldoipaaGreatDoorQTrS5
import Derived.Test.YtnaecdoeldoipaaGreatDoorQUnp
set_option linter.unusedVariables false
set_option linter.unusedSimpArgs false
namespace Go.Proofs.YtnaecdoeldoipaaGreatDoor
open Go.ChangeShapes Go.WideShapes Go.ChangeAt Go.RowKit

theorem Byt.ows {w : World} {B : Nat} {v : Value} {bs : List UInt8} (h : Byt w B v bs) : OwS w B 5 1 byteC v bs (u8s bs) [] := ⟨h, u8s_cells bs w, New.nil _ _, fun g _ hm => by cases hm⟩
theorem OwS.byt {w : World} {B : Nat} {v : Value} {bs : List UInt8} (h : OwS w B 5 1 byteC v bs (u8s bs) []) : Byt w B v bs := h.own
theorem byteC_len1 (x : UInt8) : (byteC x).length = 1 := byteC_len x
theorem u8s_set (bs : List UInt8) (i : Nat) (b : UInt8) : (u8s bs).set i (.int .u8 (b.toNat : Int)) = u8s (bs.set i b) := by
  simp only [u8s, List.map_set]
theorem Byt.put {w : World} {B g n c : Nat} {bs : List UInt8} (h : Byt w B (.slice (some ⟨g, 0, none⟩) n c) bs) (i : Nat) (b : UInt8) : Byt (w.setCell ⟨g, i, none⟩ (.int .u8 (b.toNat : Int))) B (.slice (some ⟨g, 0, none⟩) n c) (bs.set i b) := by
  have hn : n = bs.length := by
    rcases h.2 with ⟨hx, _⟩ | ⟨g', cap, cur, hv, _⟩
    · cases hx
    · injection hv
  subst hn
  have h1 := (World.ownsRow.stored h i (.int .u8 (b.toNat : Int))).1
  rw [u8s_set] at h1
  unfold Byt
  rw [List.length_set]
  exact h1
theorem u8_byte {p : Nat} (h : p < 256) : IntKind.u8.wrap (p : Int) = (p : Int) ∧ ((UInt8.ofNat p).toNat : Int) = (p : Int) := by
  refine ⟨?_, by rw [UInt8.toNat_ofNat']; omega⟩
  have h2 : IntKind.u8.wrap (p : Int) = (p : Int) % 256 := by simp [IntKind.wrap, IntKind.signed, IntKind.bits]
  rw [h2]
  omega
theorem u8_wrap_nat (x : Int) : ∃ z : Nat, IntKind.u8.wrap x = (z : Int) ∧ z < 256 := by
  have h2 : IntKind.u8.wrap x = x % 256 := by simp [IntKind.wrap, IntKind.signed, IntKind.bits]
  refine ⟨(x % 256).toNat, ?_, by omega⟩
  rw [h2]
  omega
def BytesDrawn (w : World) (e : Ending) (w' : World) : Prop := ∃ (l : List UInt8) (A : Option Addr) (c : Nat) (fp : List Nat), e = .returned (.slice A l.length c) ∧ Ow w' (.s 1 l.length (l.flatMap byteC)) (.slice A l.length c) fp ∧ Lt fp w'.heap.size ∧ l.length ≤ 20000 ∧ Below w.heap.size w w'
theorem bytes_end {w W : World} {B : Nat} {v : Value} {bs : List UInt8} (h : Byt W B v bs) (hl : bs.length ≤ 20000) (hb : Below w.heap.size w W) : BytesDrawn w (.returned v) W := by
  obtain ⟨fp, ho, hn⟩ := h.toOw
  obtain ⟨A, c, rfl, _⟩ := ho.slice
  exact ⟨bs, A, c, fp, rfl, ho, hn.lt, hl, hb⟩
set_option maxRecDepth 100000 in
set_option maxHeartbeats 4000000 in
theorem drawEventUnpack_any (l0 : List UInt8) (A0 : Option Addr) (n0 c0 : Nat) (fp : List Nat) (w : World) (ho : Ow w (.s 1 l0.length (l0.flatMap byteC)) (.slice A0 n0 c0) fp) (hf : Lt fp w.heap.size) (hsz : l0.length ≤ 1048576) :
    Calls Tryz.prog 38 #[.slice A0 n0 c0] w (BytesDrawn w) := by
  have HP := hide (open_any l0 A0 n0 c0 fp w ho hf hsz)
  obtain ⟨iu, hiu, hu0, hu1, hu2⟩ := info_parts (show (Tryz.prog.info? 5).map (fun i => (i.zero, i.size, i.bytes)) = some (some (.int .u8 0), 1, 1) by kernel_rfl)
  have HIu := hide hiu
  clear ho hiu
  go_enter Tryz.func38, Tryz.ntmps38
  go_wp2_with fail
  refine HP.out.mono ?_
  rintro e w1 ⟨L, rfl, hr1, hb1⟩
  have hgw1 := hr1.lt
  have HB1 := hide hb1
  have HC := hide (l5Event_any hr1 (by omega))
  clear hr1 hb1 HP
  go_wp2_with fail
  refine HC.out.mono ?_
  rintro e w2 ⟨x, us, fq, k2, rfl, ho2, hf2, hbk, hk2, hr2, hg2⟩
  have HR2 := hide hr2
  have HB2 := hide (HB1.out.trans (below_of_grown hg2 (Nat.le_refl _) HB1.out.size))
  have HC2 := hide (specEventPack_any x us fq w2 ho2 hf2.lt (by omega))
  clear ho2 hf2 hr2 hg2 HC HB1
  go_wp2_with fail
  refine HC2.out.mono ?_
  rintro e w3 ⟨v3, rfl, hy3, hb3⟩
  have hl9 := x.packed_len
  generalize x.packed = l at *
  have hgw2 := HR2.out.lt
  have HR3 := hide (HR2.out.below hb3)
  have HB3 := hide (HB2.out.trans (hb3.mono HB2.out.size))
  have HY3 := hide hy3
  obtain ⟨A1, c1, hv3⟩ := hy3.ows.form
  subst hv3
  clear hy3 hb3 HC2 HR2 HB2
  by_cases hl0 : l.length = 0
  · have hlI : (l.length : Int) = 0 := by omega
    have hlb : ((l.length : Int) == 0) = true := by simp [hl0]
    clear hl0
    go_wp2
    go_ret
    exact bytes_end HY3.out (by omega) HB3.out
  have hlI : ¬ ((l.length : Int) = 0) := by omega
  have hlb : ((l.length : Int) == 0) = false := beq_eq_false_iff_ne.2 hlI
  have HP := hide (pick_any HR3.out (n := 3) (by omega) (by omega) (by omega))
  go_wp2_with fail
  refine HP.out.mono ?_
  rintro e w4 ⟨r, rfl, hr3, h4, hg4⟩
  have HR4 := hide h4
  have hgl : w.heap.size < w2.heap.size := hgw2
  have hlow := fun q e => HY3.out.ows.from (g := q) e
  have HY4 := hide ((HY3.out.ows.kept hg4 (fun q e => by injection e with e; subst e; exact ⟨(fun hm => by cases hm), (fun e2 => by have := hlow _ e2; omega)⟩)).byt)
  have HB4 := hide (HB3.out.trans (below_of_grown hg4 (Nat.le_refl _) HB3.out.size))
  clear h4 hg4 HP HR3 HY3 HB3 hlow
  by_cases hr0 : 0 < r
  · have hri : (0 : Int) < (r : Int) := by omega
    go_wp2
    go_ret
    exact bytes_end HY4.out (by omega) HB4.out
  have hri : ¬ ((0 : Int) < (r : Int)) := by omega
  have HP := hide (pick_any HR4.out (n := l.length) (by omega) (by omega) (by omega))
  go_wp2_with fail
  refine HP.out.mono ?_
  rintro e w5 ⟨i, rfl, hi, h5, hg5⟩
  have HR5 := hide h5
  have hlow := fun q e => HY4.out.ows.from (g := q) e
  have HY5 := hide ((HY4.out.ows.kept hg5 (fun q e => by injection e with e; subst e; exact ⟨(fun hm => by cases hm), (fun e2 => by have := hlow _ e2; omega)⟩)).byt)
  have HB5 := hide (HB4.out.trans (below_of_grown hg5 (Nat.le_refl _) HB4.out.size))
  have HP2 := hide (pick_any HR5.out (n := 5) (by omega) (by omega) (by omega))
  clear h5 hg5 HP HR4 HY4 HB4 hlow
  go_wp2_with fail
  refine HP2.out.mono ?_
  rintro e w6 ⟨q, rfl, hq, h6, hg6⟩
  have HR6 := hide h6
  have hlow := fun q e => HY5.out.ows.from (g := q) e
  have HY6 := hide ((HY5.out.ows.kept hg6 (fun q e => by injection e with e; subst e; exact ⟨(fun hm => by cases hm), (fun e2 => by have := hlow _ e2; omega)⟩)).byt)
  have HB6 := hide (HB5.out.trans (below_of_grown hg6 (Nat.le_refl _) HB5.out.size))
  clear h6 hg6 HP2 HR5 HY5 HB5 hlow
  obtain ⟨g, c, hv6, hcells⟩ := HY6.out.form (fun h => by rw [h] at hl0; exact hl0 rfl)
  injection hv6 with hv6 _ hv7
  subst hv6
  have hv7' := hv7.symm
  clear hv7
  subst hv7'
  have HCE := hide (fun j (hj : j < l.length) => show w6.cell? ⟨g, j, none⟩ = some (.int .u8 (l[j].toNat : Int)) from by
    have h := hcells j (.int .u8 (l[j].toNat : Int)) (by simp [u8s, List.getElem?_map, hj])
    rw [Addr.add_lit, Nat.zero_add] at h
    exact h)
  have hgB : w2.heap.size ≤ g := HY6.out.ows.from rfl
  have hgL : g < w6.heap.size := HY6.out.lt g rfl
  obtain ⟨-, hlc, hcm⟩ : True ∧ l.length ≤ c ∧ c ≤ maxLen := by
    obtain ⟨fp, ho, hn⟩ := HY6.out.toOw
    have h := ho.nlen
    exact ⟨trivial, h.2.1, h.2.2⟩
  have hii : (i : Int) < (l.length : Int) := by omega
  have hi0 : (0 : Int) ≤ (i : Int) := by omega
  have hic : (i : Int) ≤ (c : Int) := by omega
  have hil : (i : Int) ≤ (l.length : Int) := by omega
  have hci : ¬ (c = i) := by omega
  have hciI : ¬ ((c : Int) = (i : Int)) := by omega
  have hcfz := (HY6.out.ows.cellAt (j := i) (u := .int .u8 (l[i].toNat : Int)) (by simp [u8s, List.getElem?_map, hi])).2.1
  have hcell := HCE.out i hi
  clear hcells hr0 hri hr3
  by_cases hq0 : q = 0
  · subst hq0
    obtain ⟨fp2, ho2, hf2⟩ := bytes_mk (W := w6) (gb := g) (o := 0) (c := c) (xs := l.take i) (fun j hj => by
      have hj2 : j < i := by rw [List.length_take] at hj; omega
      rw [Nat.zero_add, HCE.out j (by omega)]
      simp) (by rw [List.length_take]; omega) hcm
    have hli : (l.take i).length = i := by rw [List.length_take]; omega
    have HO2 := hide ho2
    have HF2 := hide hf2
    have HLI := hide hli
    clear ho2 hf2 hli
    go_wp2
    go_ret
    refine ⟨l.take i, some ⟨g, 0, none⟩, c, fp2, (by rw [HLI.out]; rfl), HO2.out, fun b hb => by rw [HF2.out b hb]; exact hgL, by rw [HLI.out]; omega, HB6.out⟩
  have q0 : ¬ ((q : Int) = 0) := by omega
  clear hq0
  by_cases hq1 : q = 1
  · subst hq1
    have HP := hide (pick_any HR6.out (n := 7) (by omega) (by omega) (by omega))
    go_wp2_with fail
    refine HP.out.mono ?_
    rintro e w7 ⟨p, rfl, hp, h7, hg7⟩
    have HY7 := hide ((HY6.out.ows.kept hg7 (fun q e => by injection e with e; subst e; exact ⟨(fun hm => by cases hm), (fun e2 => by have := HY6.out.ows.from e2; omega)⟩)))
    have HB7 := hide (HB6.out.trans (below_of_grown hg7 (Nat.le_refl _) HB6.out.size))
    obtain ⟨wp, wq⟩ := u8_byte (p := p) (by omega)
    have HWQ := hide wq
    have HX := hide (HY7.out.alloc (.cells #[.int .u8 (p : Int)] 5))
    have HXC := hide (show OwC (w7.alloc (.cells #[.int .u8 (p : Int)] 5)) ([UInt8.ofNat p].flatMap byteC) [.int .u8 (p : Int)] [] from by have h := u8s_cells [UInt8.ofNat p] (w7.alloc (.cells #[.int .u8 (p : Int)] 5)); simp only [u8s, List.map_cons, List.map_nil, wq] at h; exact h)
    have hs7 : w2.heap.size ≤ (w7.alloc (.cells #[.int .u8 (p : Int)] 5)).heap.size := by have := hg7.size; rw [World.size_alloc]; omega
    have hs7b : w2.heap.size ≤ w7.heap.size := by have := hg7.size; omega
    clear h7 hg7 HP wq
    go_wp2_with (first
      | (at_builtin; refine wpl_app rfl _ _ 22 rfl iu _ 1 Tryz.underlying22 HIu.out hu0 hu1 hu2 rfl (by decide) byteC_len1 rfl HX.out [UInt8.ofNat p] HXC.out (New.nil _ _) (fun q _ hq => by cases hq) _ 1 1 rfl rfl (SrcAt.new w7 _ _ _ _) (by omega) (by decide) hs7 ?_; intro A9 n9 c9 w9 hn9 hown9 hgb9; have HO9 := hide hown9; have HN9 := hide hn9; have HB9 := hide (HB7.out.trans ((((Below.refl w.heap.size w7).alloc HB7.out.size _).trans (hgb9.toBelow (B := w.heap.size) (by omega) (fun q e => by (have := HX.out.from e); omega))))); clear hown9 hgb9 hn9)
      | fail)
    go_ret
    obtain rfl : n9 = (l ++ [UInt8.ofNat p]).length := by rw [HN9.out]; simp
    obtain ⟨fp9, ho9, hn9_⟩ := HO9.out.toOw
    exact ⟨l ++ [UInt8.ofNat p], A9, c9, fp9, rfl, ho9, hn9_.lt, by simp; omega, HB9.out⟩
  have q1 : ¬ ((q : Int) = 1) := by omega
  clear hq1
  by_cases hq2 : q = 2
  · subst hq2
    have HP := hide (pick_any HR6.out (n := 256) (by omega) (by omega) (by omega))
    go_wp2_with fail
    refine HP.out.mono ?_
    rintro e w7 ⟨p, rfl, hp, h7, hg7⟩
    have HY7 := hide ((HY6.out.ows.kept hg7 (fun q e => by injection e with e; subst e; exact ⟨(fun hm => by cases hm), (fun e2 => by have := HY6.out.ows.from e2; omega)⟩)).byt)
    have HB7 := hide (HB6.out.trans (below_of_grown hg7 (Nat.le_refl _) HB6.out.size))
    obtain ⟨wp, wq⟩ := u8_byte (p := p) (by omega)
    have HZ7 := hide (show Byt (w7.setCell ⟨g, i, none⟩ (.int .u8 (p : Int))) w2.heap.size (.slice (some ⟨g, 0, none⟩) l.length c) (l.set i (UInt8.ofNat p)) from by have h := HY7.out.put i (UInt8.ofNat p); rw [wq] at h; exact h)
    have hc7 := (HY7.out.ows.cellAt (j := i) (u := .int .u8 (l[i].toNat : Int)) (by simp [u8s, List.getElem?_map, hi]))
    obtain ⟨hc7a, hc7b, hc7c⟩ := hc7
    have HB8 := hide (HB7.out.setCell (p := ⟨g, i, none⟩) (show w.heap.size ≤ g by omega) (.int .u8 (p : Int)))
    clear h7 hg7 HP wq hcell hcfz
    go_wp2
    go_ret
    have h := bytes_end HZ7.out (by rw [List.length_set]; omega) HB8.out
    exact h
  have q2 : ¬ ((q : Int) = 2) := by omega
  clear hq2
  by_cases hq3 : q = 3
  · subst hq3
    have HY6d := hide (HY6.out.below (w' := w6.drew) (below_drewN (Below.refl _ _) 1))
    have HB6d := hide (show Below w.heap.size w w6.drew from below_drewN HB6.out 1)
    have hcell' : w6.drew.cell? ⟨g, i, none⟩ = some (.int .u8 (l[i].toNat : Int)) := hcell
    have hgL' : g < w6.drew.heap.size := hgL
    go_wp2_with fail
    refine wp_region_held_drew (S := fun _ => True) (by kernel_rfl) trivial (fun _ => ?_)
    refine wpAnyH_take (i := 0) (v := .slice (some ⟨g, 0, none⟩) l.length c) rfl (by kernel_rfl) (by kernel_rfl) (by kernel_rfl) (fun _ _ _ h => h) (Or.inl ⟨by kernel_rfl, by (intro W hS; go_simp; first | done | with_reducible rfl | rfl)⟩) trivial ?_
    (try simp only [Act.put, List.getElem_toArray, List.getElem_cons_zero, List.getElem_cons_succ, List.setIfInBounds_toArray, List.set_cons_zero, List.set_cons_succ])
    refine wpAnyH_take (i := 1) (v := .int .i64 (i : Int)) rfl (by kernel_rfl) (by kernel_rfl) (by kernel_rfl) (fun _ _ _ h => h) (Or.inl ⟨by kernel_rfl, by (intro W hS; go_simp; first | done | with_reducible rfl | rfl)⟩) trivial ?_
    (try simp only [Act.put, List.getElem_toArray, List.getElem_cons_zero, List.getElem_cons_succ, List.setIfInBounds_toArray, List.set_cons_zero, List.set_cons_succ])
    refine wpAnyH_take (i := 2) (v := .slice (some ⟨g, 0, none⟩) l.length c) rfl (by kernel_rfl) (by kernel_rfl) (by kernel_rfl) (fun _ _ _ h => h) (Or.inl ⟨by kernel_rfl, by (intro W hS; go_simp; first | done | with_reducible rfl | rfl)⟩) trivial ?_
    (try simp only [Act.put, List.getElem_toArray, List.getElem_cons_zero, List.getElem_cons_succ, List.setIfInBounds_toArray, List.set_cons_zero, List.set_cons_succ])
    refine wpAnyH_take (i := 3) (v := .int .i64 (i : Int)) rfl (by kernel_rfl) (by kernel_rfl) (by kernel_rfl) (fun _ _ _ h => h) (Or.inl ⟨by kernel_rfl, by (intro W hS; go_simp; first | done | with_reducible rfl | rfl)⟩) trivial ?_
    (try simp only [Act.put, List.getElem_toArray, List.getElem_cons_zero, List.getElem_cons_succ, List.setIfInBounds_toArray, List.set_cons_zero, List.set_cons_succ])
    refine wpAnyH_take (i := 4) (v := .pointer (some ⟨g, i, none⟩)) rfl (by kernel_rfl) (by kernel_rfl) (by kernel_rfl) (fun _ _ _ h => h) (Or.inl ⟨by kernel_rfl, by (intro W hS; go_simp; first | done | with_reducible rfl | rfl)⟩) trivial ?_
    (try simp only [Act.put, List.getElem_toArray, List.getElem_cons_zero, List.getElem_cons_succ, List.setIfInBounds_toArray, List.set_cons_zero, List.set_cons_succ])
    refine wpAnyH_take (i := 6) (v := .pointer (some ⟨w.heap.size, 0, none⟩)) rfl (by kernel_rfl) (by kernel_rfl) (by kernel_rfl) (fun _ _ _ h => h) (Or.inl ⟨by kernel_rfl, by (intro W hS; go_simp; first | done | with_reducible rfl | rfl)⟩) trivial ?_
    (try simp only [Act.put, List.getElem_toArray, List.getElem_cons_zero, List.getElem_cons_succ, List.setIfInBounds_toArray, List.set_cons_zero, List.set_cons_succ])
    refine wpAnyH_ready (rs := [5, 7]) (by kernel_rfl) (by simp) ?_
    refine AllReadyH.cons rfl (fun K hK => ?_) ?_
    · go_simp
      refine hK.out _ _ trivial (fun hHeld => ?_)
      clear hK K hHeld
      refine wpAnyH_ready (rs := [7]) (by kernel_rfl) (by simp) ?_
      refine AllReadyH.cons rfl (fun K hK => ?_) AllReadyH.nil
      go_simp
      go_at_call 48
      refine ((pick_any (HR6.out.below (below_drewN (Below.refl _ _) 1)) (n := 3) (by omega) (by omega) (by omega))).mono ?_
      rintro e w7 ⟨p, rfl, hp, h7, hg7⟩
      have HY7 := hide ((HY6d.out.ows.kept hg7 (fun q e => by injection e with e; subst e; exact ⟨(fun hm => by cases hm), (fun e2 => by have := HY6d.out.ows.from e2; omega)⟩)).byt)
      have HB7 := hide (HB6d.out.trans (below_of_grown hg7 (Nat.le_refl _) HB6d.out.size))
      have hc7e := (HY7.out.ows.cellAt (j := i) (u := .int .u8 (l[i].toNat : Int)) (by simp [u8s, List.getElem?_map, hi])).1
      have hc7l : g < w7.heap.size := HY7.out.lt g rfl
      obtain ⟨wp, wq⟩ := u8_byte (p := p) (by omega)
      try go_simp
      refine hK.out _ _ trivial (fun hHeld => ?_)
      clear hK K hHeld h7 hg7 wq
      obtain ⟨z0, W0⟩ : ∃ z, IntKind.u8.wrap ((l[i].toNat : Int) + (p : Int)) = z := ⟨_, rfl⟩
      obtain ⟨zz, W1⟩ : ∃ z, IntKind.u8.wrap (z0 - 1) = z := ⟨_, rfl⟩
      obtain ⟨z1, hz1, hz1b⟩ := u8_wrap_nat (z0 - 1)
      rw [W1] at hz1
      subst hz1
      have HU1 := hide (show ((UInt8.ofNat z1).toNat : Int) = (z1 : Int) from (u8_byte hz1b).2)
      refine wpAnyH_ready (rs := [8]) (by kernel_rfl) (by simp) ?_
      refine AllReadyH.cons rfl (fun K hK => ?_) AllReadyH.nil
      go_simp
      refine hK.out _ _ trivial (fun hHeld => ?_)
      clear hK K hHeld
      refine wpAnyH_ready (rs := [9]) (by kernel_rfl) (by simp) ?_
      refine AllReadyH.cons rfl (fun K hK => ?_) AllReadyH.nil
      go_simp
      refine hK.out _ _ trivial (fun hHeld => ?_)
      clear hK K hHeld
      refine wpAnyH_ready (rs := [10]) (by kernel_rfl) (by simp) ?_
      refine AllReadyH.cons rfl (fun K hK => ?_) AllReadyH.nil
      go_simp
      refine hK.out _ _ trivial (fun hHeld => ?_)
      clear hK K hHeld
      refine wpAnyH_ready (rs := [11]) (by kernel_rfl) (by simp) ?_
      refine AllReadyH.cons rfl (fun K hK => ?_) AllReadyH.nil
      go_simp
      refine hK.out _ _ trivial (fun hHeld => ?_)
      clear hK K hHeld
      have HZ8 := hide ((HY7.out.put i (UInt8.ofNat z1)))
      have HB8 := hide (HB7.out.setCell (p := ⟨g, i, none⟩) (show w.heap.size ≤ g by omega) (.int .u8 ((UInt8.ofNat z1).toNat : Int)))
      have hz1u := HU1.out
      rw [hz1u] at HZ8 HB8
      clear hz1u
      obtain ⟨hc7a, hc7b, hc7c⟩ := (HY7.out.ows.cellAt (j := i) (u := .int .u8 (l[i].toNat : Int)) (by simp [u8s, List.getElem?_map, hi]))
      refine wpAnyH_ready (rs := [12]) (by kernel_rfl) (by simp) ?_
      refine AllReadyH.cons rfl (fun K hK => ?_) AllReadyH.nil
      go_simp
      refine hK.out _ _ trivial (fun hHeld => ?_)
      clear hK K hHeld
      refine wpAnyH_done (by kernel_rfl) ?_ _
      clear hc7a hc7b hc7c hc7e W0 W1 hcell hcfz
      generalize hwz : World.setCell _ _ _ = wz
      have HZz := hide (show Byt wz w2.heap.size (.slice (some ⟨g, 0, none⟩) l.length c) (l.set i (UInt8.ofNat z1)) from by rw [← hwz]; exact HZ8.out)
      have HBz := hide (show Below w.heap.size w wz from by rw [← hwz]; exact HB8.out)
      clear hwz HZ8 HB8
      go_wp2
      go_ret
      exact bytes_end HZz.out (by rw [List.length_set]; omega) HBz.out
    · refine AllReadyH.cons rfl (fun K hK => ?_) AllReadyH.nil
      go_simp
      go_at_call 48
      refine ((pick_any (HR6.out.below (below_drewN (Below.refl _ _) 1)) (n := 3) (by omega) (by omega) (by omega))).mono ?_
      rintro e w7 ⟨p, rfl, hp, h7, hg7⟩
      have HY7 := hide ((HY6d.out.ows.kept hg7 (fun q e => by injection e with e; subst e; exact ⟨(fun hm => by cases hm), (fun e2 => by have := HY6d.out.ows.from e2; omega)⟩)).byt)
      have HB7 := hide (HB6d.out.trans (below_of_grown hg7 (Nat.le_refl _) HB6d.out.size))
      have hc7e := (HY7.out.ows.cellAt (j := i) (u := .int .u8 (l[i].toNat : Int)) (by simp [u8s, List.getElem?_map, hi])).1
      have hc7l : g < w7.heap.size := HY7.out.lt g rfl
      obtain ⟨wp, wq⟩ := u8_byte (p := p) (by omega)
      try go_simp
      refine hK.out _ _ trivial (fun hHeld => ?_)
      clear hK K hHeld h7 hg7 wq
      refine wpAnyH_ready (rs := [5, 8]) (by kernel_rfl) (by simp) ?_
      refine AllReadyH.cons rfl (fun K hK => ?_) ?_
      · go_simp
        refine hK.out _ _ trivial (fun hHeld => ?_)
        clear hK K hHeld
        obtain ⟨z0, W0⟩ : ∃ z, IntKind.u8.wrap ((l[i].toNat : Int) + (p : Int)) = z := ⟨_, rfl⟩
        obtain ⟨zz, W1⟩ : ∃ z, IntKind.u8.wrap (z0 - 1) = z := ⟨_, rfl⟩
        obtain ⟨z1, hz1, hz1b⟩ := u8_wrap_nat (z0 - 1)
        rw [W1] at hz1
        subst hz1
        have HU1 := hide (show ((UInt8.ofNat z1).toNat : Int) = (z1 : Int) from (u8_byte hz1b).2)
        refine wpAnyH_ready (rs := [8]) (by kernel_rfl) (by simp) ?_
        refine AllReadyH.cons rfl (fun K hK => ?_) AllReadyH.nil
        go_simp
        refine hK.out _ _ trivial (fun hHeld => ?_)
        clear hK K hHeld
        refine wpAnyH_ready (rs := [9]) (by kernel_rfl) (by simp) ?_
        refine AllReadyH.cons rfl (fun K hK => ?_) AllReadyH.nil
        go_simp
        refine hK.out _ _ trivial (fun hHeld => ?_)
        clear hK K hHeld
        refine wpAnyH_ready (rs := [10]) (by kernel_rfl) (by simp) ?_
        refine AllReadyH.cons rfl (fun K hK => ?_) AllReadyH.nil
        go_simp
        refine hK.out _ _ trivial (fun hHeld => ?_)
        clear hK K hHeld
        refine wpAnyH_ready (rs := [11]) (by kernel_rfl) (by simp) ?_
        refine AllReadyH.cons rfl (fun K hK => ?_) AllReadyH.nil
        go_simp
        refine hK.out _ _ trivial (fun hHeld => ?_)
        clear hK K hHeld
        have HZ8 := hide ((HY7.out.put i (UInt8.ofNat z1)))
        have HB8 := hide (HB7.out.setCell (p := ⟨g, i, none⟩) (show w.heap.size ≤ g by omega) (.int .u8 ((UInt8.ofNat z1).toNat : Int)))
        have hz1u := HU1.out
        rw [hz1u] at HZ8 HB8
        clear hz1u
        obtain ⟨hc7a, hc7b, hc7c⟩ := (HY7.out.ows.cellAt (j := i) (u := .int .u8 (l[i].toNat : Int)) (by simp [u8s, List.getElem?_map, hi]))
        refine wpAnyH_ready (rs := [12]) (by kernel_rfl) (by simp) ?_
        refine AllReadyH.cons rfl (fun K hK => ?_) AllReadyH.nil
        go_simp
        refine hK.out _ _ trivial (fun hHeld => ?_)
        clear hK K hHeld
        refine wpAnyH_done (by kernel_rfl) ?_ _
        clear hc7a hc7b hc7c hc7e W0 W1 hcell hcfz
        generalize hwz : World.setCell _ _ _ = wz
        have HZz := hide (show Byt wz w2.heap.size (.slice (some ⟨g, 0, none⟩) l.length c) (l.set i (UInt8.ofNat z1)) from by rw [← hwz]; exact HZ8.out)
        have HBz := hide (show Below w.heap.size w wz from by rw [← hwz]; exact HB8.out)
        clear hwz HZ8 HB8
        go_wp2
        go_ret
        exact bytes_end HZz.out (by rw [List.length_set]; omega) HBz.out
      · refine AllReadyH.cons rfl (fun K hK => ?_) AllReadyH.nil
        go_simp
        refine hK.out _ _ trivial (fun hHeld => ?_)
        clear hK K hHeld
        refine wpAnyH_ready (rs := [5]) (by kernel_rfl) (by simp) ?_
        refine AllReadyH.cons rfl (fun K hK => ?_) AllReadyH.nil
        go_simp
        refine hK.out _ _ trivial (fun hHeld => ?_)
        clear hK K hHeld
        obtain ⟨z0, W0⟩ : ∃ z, IntKind.u8.wrap ((l[i].toNat : Int) + (p : Int)) = z := ⟨_, rfl⟩
        obtain ⟨zz, W1⟩ : ∃ z, IntKind.u8.wrap (z0 - 1) = z := ⟨_, rfl⟩
        obtain ⟨z1, hz1, hz1b⟩ := u8_wrap_nat (z0 - 1)
        rw [W1] at hz1
        subst hz1
        have HU1 := hide (show ((UInt8.ofNat z1).toNat : Int) = (z1 : Int) from (u8_byte hz1b).2)
        refine wpAnyH_ready (rs := [9]) (by kernel_rfl) (by simp) ?_
        refine AllReadyH.cons rfl (fun K hK => ?_) AllReadyH.nil
        go_simp
        refine hK.out _ _ trivial (fun hHeld => ?_)
        clear hK K hHeld
        refine wpAnyH_ready (rs := [10]) (by kernel_rfl) (by simp) ?_
        refine AllReadyH.cons rfl (fun K hK => ?_) AllReadyH.nil
        go_simp
        refine hK.out _ _ trivial (fun hHeld => ?_)
        clear hK K hHeld
        refine wpAnyH_ready (rs := [11]) (by kernel_rfl) (by simp) ?_
        refine AllReadyH.cons rfl (fun K hK => ?_) AllReadyH.nil
        go_simp
        refine hK.out _ _ trivial (fun hHeld => ?_)
        clear hK K hHeld
        have HZ8 := hide ((HY7.out.put i (UInt8.ofNat z1)))
        have HB8 := hide (HB7.out.setCell (p := ⟨g, i, none⟩) (show w.heap.size ≤ g by omega) (.int .u8 ((UInt8.ofNat z1).toNat : Int)))
        have hz1u := HU1.out
        rw [hz1u] at HZ8 HB8
        clear hz1u
        obtain ⟨hc7a, hc7b, hc7c⟩ := (HY7.out.ows.cellAt (j := i) (u := .int .u8 (l[i].toNat : Int)) (by simp [u8s, List.getElem?_map, hi]))
        refine wpAnyH_ready (rs := [12]) (by kernel_rfl) (by simp) ?_
        refine AllReadyH.cons rfl (fun K hK => ?_) AllReadyH.nil
        go_simp
        refine hK.out _ _ trivial (fun hHeld => ?_)
        clear hK K hHeld
        refine wpAnyH_done (by kernel_rfl) ?_ _
        clear hc7a hc7b hc7c hc7e W0 W1 hcell hcfz
        generalize hwz : World.setCell _ _ _ = wz
        have HZz := hide (show Byt wz w2.heap.size (.slice (some ⟨g, 0, none⟩) l.length c) (l.set i (UInt8.ofNat z1)) from by rw [← hwz]; exact HZ8.out)
        have HBz := hide (show Below w.heap.size w wz from by rw [← hwz]; exact HB8.out)
        clear hwz HZ8 HB8
        go_wp2
        go_ret
        exact bytes_end HZz.out (by rw [List.length_set]; omega) HBz.out
  have q3 : ¬ ((q : Int) = 3) := by omega
  clear hq3
  have HYd := hide (HY6.out.below (w' := w6.drew) (below_drewN (Below.refl _ _) 1))
  have HBd := hide (show Below w.heap.size w w6.drew from below_drewN HB6.out 1)
  have HRd := hide (show RdD w6.drew w.heap.size L _ from HR6.out.below (below_drewN (Below.refl _ _) 1))
  have HCd := hide (fun j (hj : j < l.length) => show w6.drew.cell? ⟨g, j, none⟩ = some (.int .u8 (l[j].toNat : Int)) from HCE.out j hj)
  have hgd : g < w6.drew.heap.size := hgL
  have hwd : w.heap.size < w6.drew.heap.size := by omega
  clear hcell hcfz HY6 HB6 HR6 HCE
  go_wp2_with fail
  refine wp_region_held_drew (S := fun _ => True) (by kernel_rfl) trivial (fun _ => ?_)
  generalize w6.drew = wd at *
  refine wpAnyH_take (i := 1) (v := .slice (some ⟨g, 0, none⟩) l.length c) rfl (by kernel_rfl) (by kernel_rfl) (by kernel_rfl) (fun _ _ _ h => h) (Or.inl ⟨by kernel_rfl, by (intro W hS; go_simp; first | done | with_reducible rfl | rfl)⟩) trivial ?_
  (try simp only [Act.put, List.getElem_toArray, List.getElem_cons_zero, List.getElem_cons_succ, List.setIfInBounds_toArray, List.set_cons_zero, List.set_cons_succ])
  refine wpAnyH_take (i := 2) (v := .int .i64 (i : Int)) rfl (by kernel_rfl) (by kernel_rfl) (by kernel_rfl) (fun _ _ _ h => h) (Or.inl ⟨by kernel_rfl, by (intro W hS; go_simp; first | done | with_reducible rfl | rfl)⟩) trivial ?_
  (try simp only [Act.put, List.getElem_toArray, List.getElem_cons_zero, List.getElem_cons_succ, List.setIfInBounds_toArray, List.set_cons_zero, List.set_cons_succ])
  refine wpAnyH_take (i := 3) (v := _) rfl (by kernel_rfl) (by kernel_rfl) (by kernel_rfl) (fun _ _ _ h => h) (Or.inl ⟨by kernel_rfl, by (intro W hS; go_simp; first | done | with_reducible rfl | rfl)⟩) trivial ?_
  (try simp only [Act.put, List.getElem_toArray, List.getElem_cons_zero, List.getElem_cons_succ, List.setIfInBounds_toArray, List.set_cons_zero, List.set_cons_succ])
  refine wpAnyH_take (i := 5) (v := .pointer (some ⟨w.heap.size, 0, none⟩)) rfl (by kernel_rfl) (by kernel_rfl) (by kernel_rfl) (fun _ _ _ h => h) (Or.inl ⟨by kernel_rfl, by (intro W hS; go_simp; first | done | with_reducible rfl | rfl)⟩) trivial ?_
  (try simp only [Act.put, List.getElem_toArray, List.getElem_cons_zero, List.getElem_cons_succ, List.setIfInBounds_toArray, List.set_cons_zero, List.set_cons_succ])
  refine wpAnyH_take (i := 12) (v := .slice (some ⟨g, 0, none⟩) l.length c) rfl (by kernel_rfl) (by kernel_rfl) (by kernel_rfl) (fun _ _ _ h => h) (Or.inl ⟨by kernel_rfl, by (intro W hS; go_simp; first | done | with_reducible rfl | rfl)⟩) trivial ?_
  (try simp only [Act.put, List.getElem_toArray, List.getElem_cons_zero, List.getElem_cons_succ, List.setIfInBounds_toArray, List.set_cons_zero, List.set_cons_succ])
  refine wpAnyH_take (i := 13) (v := .int .i64 (i : Int)) rfl (by kernel_rfl) (by kernel_rfl) (by kernel_rfl) (fun _ _ _ h => h) (Or.inl ⟨by kernel_rfl, by (intro W hS; go_simp; first | done | with_reducible rfl | rfl)⟩) trivial ?_
  (try simp only [Act.put, List.getElem_toArray, List.getElem_cons_zero, List.getElem_cons_succ, List.setIfInBounds_toArray, List.set_cons_zero, List.set_cons_succ])
  refine wpAnyH_take (i := 14) (v := .slice (some ⟨g, i, none⟩) (l.length - i) (c - i)) rfl (by kernel_rfl) (by kernel_rfl) (by kernel_rfl) (fun _ _ _ h => h) (Or.inl ⟨by kernel_rfl, by (intro W hS; go_simp; first | done | with_reducible rfl | rfl)⟩) trivial ?_
  (try simp only [Act.put, List.getElem_toArray, List.getElem_cons_zero, List.getElem_cons_succ, List.setIfInBounds_toArray, List.set_cons_zero, List.set_cons_succ])
  refine wpAnyH_ready (rs := [0]) (by kernel_rfl) (by simp) ?_
  refine AllReadyH.cons rfl (fun K hK => ?_) AllReadyH.nil
  go_simp
  refine hK.out _ _ trivial (fun hHeld => ?_)
  clear hK K hHeld
  have hal : Below wd.heap.size wd (wd.alloc (.cells #[] 5)) := (Below.refl _ _).alloc (Nat.le_refl _) _
  have HE := hide (OwS.emptyL (f := byteC) wd wd.heap.size (Nat.le_refl _) 5 1)
  have HSR := hide (show SrcAt (wd.alloc (.cells #[] 5)) (u8s (l.take i)) (some ⟨g, 0, none⟩) i c from .inr ⟨_, rfl, fun j u hj => by
    have hj2 : j < (l.take i).length := by have := (List.getElem?_eq_some_iff.1 hj).1; simpa [u8s] using this
    have hj3 : j < l.length := by rw [List.length_take] at hj2; omega
    rw [Addr.add_lit, Nat.zero_add, hal.cell (p := ⟨g, j, none⟩) hgd, HCd.out j hj3, ← hj]
    simp [u8s, List.getElem?_map, List.getElem?_take, hj3, show j < i by rw [List.length_take] at hj2; omega]⟩)
  have hti : i = (l.take i).length := by rw [List.length_take]; omega
  have HTI := hide hti
  clear hti
  refine wpAnyH_ready (rs := [4]) (by kernel_rfl) (by simp) ?_
  refine AllReadyH.cons rfl (fun K hK => ?_) AllReadyH.nil
  refine step_app (by rfl) _ _ 22 (by rfl) iu _ 1 Tryz.underlying22 HIu.out hu0 hu1 hu2 rfl (by decide) byteC_len1 (by rfl) HE.out (l.take i) (u8s_cells _ _) (New.nil _ _) (fun q _ hq => by cases hq) _ _ _ (by first | rfl | exact rfl) (by exact HTI.out) HSR.out (by simp; omega) (by decide) (by rw [World.size_alloc]; omega) ?_
  intro A7 n7 c7 w7 hn7 hown7 hgb7
  have HO7 := hide (show OwS w7 wd.heap.size 5 1 byteC (.slice A7 n7 c7) (l.take i) (u8s (l.take i)) [] from hown7)
  have hb7 : Below wd.heap.size wd w7 := hal.trans (hgb7.toBelow (B := wd.heap.size) (by rw [World.size_alloc]; omega) (fun q e => by (have e2 : wd.heap.size = q := by simpa [Value.ownBlock] using e); omega))
  have HB7 := hide hb7
  refine hK.out _ _ trivial (fun hHeld => ?_)
  clear hK K hHeld hn7 hown7 hgb7 hb7 hal HE HSR
  refine wpAnyH_ready (rs := [6]) (by kernel_rfl) (by simp) ?_
  refine AllReadyH.cons rfl (fun K hK => ?_) AllReadyH.nil
  go_simp
  go_at_call 48
  refine ((pick_any (HRd.out.below HB7.out) (n := 2) (by omega) (by omega) (by omega))).mono ?_
  rintro e w8 ⟨p, rfl, hp, h8, hg8⟩
  have HO8 := hide (HO7.out.kept hg8 (fun q e => by injection e with e; subst e; exact ⟨(fun hm => by cases hm), (fun e2 => by have := HO7.out.from e2; omega)⟩))
  have HB8 := hide (HBd.out.trans ((HB7.out.mono (by omega)).trans (below_of_grown hg8 (Nat.le_refl _) (by have := HB7.out.size; omega))))
  have HC8 := hide (fun j (hj : j < l.length) => show w8.cell? ⟨g, j, none⟩ = some (.int .u8 (l[j].toNat : Int)) from cell_grD hg8 ((HB7.out.cell (p := ⟨g, j, none⟩) hgd).trans (HCd.out j hj)) (by omega))
  have hs8 : wd.heap.size ≤ w8.heap.size := Nat.le_trans HB7.out.size hg8.size
  try go_simp
  refine hK.out _ _ trivial (fun hHeld => ?_)
  clear hK K hHeld h8 hg8 HO7 HB7 HRd HCd HYd
  obtain ⟨m1, W2⟩ : ∃ z, IntKind.i64.wrap ((p : Int) * -128) = z := ⟨_, rfl⟩
  obtain ⟨m2, W3⟩ : ∃ z, IntKind.i64.wrap (128 + m1) = z := ⟨_, rfl⟩
  obtain ⟨z1, W4, hz1b⟩ := u8_wrap_nat m2
  have HU1 := hide (show ((UInt8.ofNat z1).toNat : Int) = (z1 : Int) from (u8_byte hz1b).2)
  refine wpAnyH_ready (rs := [7]) (by kernel_rfl) (by simp) ?_
  refine AllReadyH.cons rfl (fun K hK => ?_) AllReadyH.nil
  go_simp
  refine hK.out _ _ trivial (fun hHeld => ?_)
  clear hK K hHeld
  refine wpAnyH_ready (rs := [8]) (by kernel_rfl) (by simp) ?_
  refine AllReadyH.cons rfl (fun K hK => ?_) AllReadyH.nil
  go_simp
  refine hK.out _ _ trivial (fun hHeld => ?_)
  clear hK K hHeld
  refine wpAnyH_ready (rs := [9]) (by kernel_rfl) (by simp) ?_
  refine AllReadyH.cons rfl (fun K hK => ?_) AllReadyH.nil
  go_simp
  refine hK.out _ _ trivial (fun hHeld => ?_)
  clear hK K hHeld
  refine wpAnyH_ready (rs := [10]) (by kernel_rfl) (by simp) ?_
  refine AllReadyH.cons rfl (fun K hK => ?_) AllReadyH.nil
  go_simp
  refine hK.out _ _ trivial (fun hHeld => ?_)
  clear hK K hHeld
  have HX9 := hide (HO8.out.alloc (.cells #[.int .u8 (z1 : Int)] 5))
  have HXC := hide (show OwC (w8.alloc (.cells #[.int .u8 (z1 : Int)] 5)) ([UInt8.ofNat z1].flatMap byteC) [.int .u8 (z1 : Int)] [] from by have h := u8s_cells [UInt8.ofNat z1] (w8.alloc (.cells #[.int .u8 (z1 : Int)] 5)); simp only [u8s, List.map_cons, List.map_nil, HU1.out] at h; exact h)
  have hal9 : Below w8.heap.size w8 (w8.alloc (.cells #[.int .u8 (z1 : Int)] 5)) := (Below.refl _ _).alloc (Nat.le_refl _) _
  have htl : (l.take i).length ≤ 20000 := by rw [List.length_take]; omega
  clear W2 W3 W4
  refine wpAnyH_ready (rs := [11]) (by kernel_rfl) (by simp) ?_
  refine AllReadyH.cons rfl (fun K hK => ?_) AllReadyH.nil
  refine step_app (by rfl) _ _ 22 (by rfl) iu _ 1 Tryz.underlying22 HIu.out hu0 hu1 hu2 rfl (by decide) byteC_len1 (by rfl) HX9.out ([UInt8.ofNat z1]) HXC.out (New.nil _ _) (fun q _ hq => by cases hq) _ _ _ (by first | rfl | exact rfl) (by rfl) (SrcAt.new w8 _ _ _ _) (by omega) (by decide) (by rw [World.size_alloc]; omega) ?_
  intro A10 n10 c10 w10 hn10 hown10 hgb10
  have hgA : g ≠ w8.heap.size := by omega
  have HO10 := hide (show OwS w10 wd.heap.size 5 1 byteC (.slice A10 n10 c10) (l.take i ++ [UInt8.ofNat z1]) (u8s (l.take i) ++ [.int .u8 (z1 : Int)]) [] from hown10)
  have HB10 := hide (HB8.out.trans (((hal9.mono (by have := HB8.out.size; omega))).trans (hgb10.toBelow (B := w.heap.size) (by rw [World.size_alloc]; omega) (fun q e => by have := HX9.out.from e; omega))))
  have HC10 := hide (fun j (hj : j < l.length) => show w10.cell? ⟨g, j, none⟩ = some (.int .u8 (l[j].toNat : Int)) from cell_gbD hgb10 ((hal9.cell (p := ⟨g, j, none⟩) (show g < w8.heap.size by omega)).trans (HC8.out j hj)) (fun e => by have := HX9.out.from e; omega))
  have hs10 : wd.heap.size ≤ w10.heap.size := by have := hgb10.grown.size; rw [World.size_alloc] at this; omega
  refine hK.out _ _ trivial (fun hHeld => ?_)
  clear hK K hHeld hn10 hown10 hgb10 HX9 HXC hal9 HO8 HB8 HC8
  have HSR := hide (show SrcAt w10 (u8s (l.drop i)) (some ⟨g, i, none⟩) (l.length - i) (c - i) from .inr ⟨_, rfl, fun j u hj => by
    have hj2 : j < (l.drop i).length := by have := (List.getElem?_eq_some_iff.1 hj).1; simpa [u8s] using this
    have hj3 : i + j < l.length := by rw [List.length_drop] at hj2; omega
    rw [Addr.add_lit, HC10.out (i + j) hj3, ← hj]
    simp [u8s, List.getElem?_map, List.getElem?_drop, hj3]⟩)
  have HDL := hide (show l.length - i = (l.drop i).length from by rw [List.length_drop])
  have hdl : (l.drop i).length ≤ 20000 := by rw [List.length_drop]; omega
  have hta : (l.take i ++ [UInt8.ofNat z1]).length ≤ 10000 := by rw [List.length_append, List.length_take]; simp; omega
  refine wpAnyH_ready (rs := [15]) (by kernel_rfl) (by simp) ?_
  refine AllReadyH.cons rfl (fun K hK => ?_) AllReadyH.nil
  refine step_app (by rfl) _ _ 22 (by rfl) iu _ 1 Tryz.underlying22 HIu.out hu0 hu1 hu2 rfl (by decide) byteC_len1 (by rfl) HO10.out (l.drop i) (u8s_cells _ _) (New.nil _ _) (fun q _ hq => by cases hq) _ _ _ (by first | rfl | exact rfl) (by exact HDL.out) HSR.out (by have := HDL.out; omega) (by decide) hs10 ?_
  intro A11 n11 c11 w11 hn11 hown11 hgb11
  have HO11 := hide hown11
  have HN11 := hide hn11
  have HB11 := hide (HB10.out.trans (hgb11.toBelow (B := w.heap.size) (by omega) (fun q e => by have := HO10.out.from e; omega)))
  refine hK.out _ _ trivial (fun hHeld => ?_)
  clear hK K hHeld hn11 hown11 hgb11 HO10 HB10 HC10 HSR
  refine wpAnyH_ready (rs := [16]) (by kernel_rfl) (by simp) ?_
  refine AllReadyH.cons rfl (fun K hK => ?_) AllReadyH.nil
  go_simp
  refine hK.out _ _ trivial (fun hHeld => ?_)
  clear hK K hHeld
  refine wpAnyH_done (by kernel_rfl) ?_ _
  obtain ⟨lz, hlz⟩ : ∃ z, l.take i ++ [UInt8.ofNat z1] ++ l.drop i = z := ⟨_, rfl⟩
  have hn : n11 = lz.length := by rw [HN11.out, ← hlz]; simp only [List.length_append]
  have hl2 : lz.length ≤ 20000 := by
    rw [← hlz]
    simp only [List.length_append, List.length_take, List.length_drop, List.length_singleton]
    omega
  rw [hlz] at HO11
  subst hn
  clear hlz HN11
  go_wp2
  go_ret
  obtain ⟨fp9, ho9, hn9_⟩ := HO11.out.toOw
  exact ⟨lz, A11, c11, fp9, rfl, ho9, hn9_.lt, hl2, HB11.out⟩
end Go.Proofs.YtnaecdoeldoipaaGreatDoor
