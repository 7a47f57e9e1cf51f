/-
  The program's LogPlanOk.
-/
import Derived.Deep.AppendLies
import Derived.Deep.RegionHeld3
import Derived.Test.YtddjgbhkfdpffaaGreatDoorWHLogState
import Derived.Test.YtddjgbhkfdpffaaGreatDoorWLib
set_option linter.unusedVariables false
set_option linter.unusedSimpArgs false
namespace Go.Proofs.YtddjgbhkfdpffaaGreatDoor
open Go.ChangeShapes Go.WideShapes Go.ChangeAt Go.RowKit

def LogPlan.nums (p : LogPlan) (j : Nat) : List Int := p.open_ :: (p.parts.take j).map LogPart.num
theorem LogPlan.nums_zero (p : LogPlan) : p.nums 0 = [p.open_] := by simp [LogPlan.nums]
theorem LogPlan.nums_len (p : LogPlan) {j : Nat} (h : j ≤ p.parts.length) : (p.nums j).length = j + 1 := by simp [LogPlan.nums]; omega
theorem LogPlan.nums_succ (p : LogPlan) {j : Nat} (h : j < p.parts.length) : p.nums (j + 1) = p.nums j ++ [p.parts[j].num] := by
  unfold LogPlan.nums
  rw [List.take_succ_eq_append_getElem h, List.map_append]
  rfl
theorem LogPlan.mem_nums (p : LogPlan) {j : Nat} (h : j ≤ p.parts.length) (x : Int) : x ∈ p.nums j ↔ x = p.open_ ∨ ∃ a, ∃ ha : a < j, (p.parts[a]'(by omega)).num = x := by
  unfold LogPlan.nums
  rw [List.mem_cons, List.mem_map]
  constructor
  · rintro (h1 | ⟨y, hy, rfl⟩)
    · exact .inl h1
    · obtain ⟨a, ha, rfl⟩ := List.getElem_of_mem hy
      simp only [List.length_take] at ha
      exact .inr ⟨a, by omega, by rw [List.getElem_take]⟩
  · rintro (h1 | ⟨a, ha, rfl⟩)
    · exact .inl h1
    · exact .inr ⟨_, List.mem_take_iff_getElem.2 ⟨a, by omega, rfl⟩, rfl⟩
theorem intInfo : (Tryz.prog.info? 3).map (fun i => (i.zero, i.size, i.bytes)) = some (some (.int .i64 0), 1, 8) := by kernel_rfl
theorem cell_keep {w w' : World} {r : Option Nat} (h : w.grownBy w' r) {g off : Nat} {v : Value} (hc : w.cell? ⟨g, off, none⟩ = some v) (hg : g < w.heap.size) (hr : r ≠ some g) : w'.cell? ⟨g, off, none⟩ = some v :=
  (World.cell?_of_block (a := ⟨g, off, none⟩) (h.block g hg hr.symm)).trans hc

set_option maxRecDepth 100000 in
set_option maxHeartbeats 2000000 in
theorem implLogPlanOk_any (p : LogPlan) (us : List Value) (fp : List Nat) (w : World) (ho : OwC w p.cells us fp) (hf : Lt fp w.heap.size) (hbk : p.bulk ≤ 2097152) :
    Calls Tryz.prog 26 #[.agg us.toArray] w fun e w' => e = .returned (.bool (tb p.ok)) ∧ Below w.heap.size w w' := by
  obtain ⟨A1, c1, f1, rfl, o1, w1, w2, rfl⟩ := ho.oLogPlan
  obtain ⟨_, hcap, hmx⟩ := o1.nlen
  unfold maxLen at hmx
  have hkb : p.parts.length ≤ 2097152 := by have := p.bulk_eq; unfold LogPart.bulkL at this; omega
  obtain ⟨i0, hi, hz0, hz1, hz2⟩ := info_parts intInfo
  have hw1 : Below w.heap.size w ((w.alloc (.cells #[.slice A1 p.parts.length c1, .int .i64 p.open_, .int .i64 p.first] 30)).alloc (.cells #[.int .i64 p.open_] 3)) := ((Below.refl _ _).alloc (Nat.le_refl _) _).alloc (by simp) _
  have R1 : Row ((w.alloc (.cells #[.slice A1 p.parts.length c1, .int .i64 p.open_, .int .i64 p.first] 30)).alloc (.cells #[.int .i64 p.open_] 3)) w.heap.size 30 [.slice A1 p.parts.length c1, .int .i64 p.open_, .int .i64 p.first] := (Row.new w _ _).alloc _
  have N1 : Row ((w.alloc (.cells #[.slice A1 p.parts.length c1, .int .i64 p.open_, .int .i64 p.first] 30)).alloc (.cells #[.int .i64 p.open_] 3)) (w.heap.size + 1) 3 [.int .i64 p.open_] := by
    have h := Row.new (w.alloc (.cells #[.slice A1 p.parts.length c1, .int .i64 p.open_, .int .i64 p.first] 30)) 3 [.int .i64 p.open_]
    rw [World.size_alloc] at h
    exact h
  have HOW0 : Hid (OwS ((w.alloc (.cells #[.slice A1 p.parts.length c1, .int .i64 p.open_, .int .i64 p.first] 30)).alloc (.cells #[.int .i64 p.open_] 3)) (w.heap.size + 1) 3 1 intC (.slice (some ⟨w.heap.size + 1, 0, none⟩) 1 1) (p.nums 0) [.int .i64 p.open_] []) := by
    rw [p.nums_zero]
    exact hide ⟨⟨rfl, .inr ⟨_, 1, _, rfl, Nat.le_refl _, N1, Nat.le_refl _, by decide, rfl, rfl⟩⟩, ⟨[], [], ⟨rfl, w1, rfl⟩, by simp [OwC], rfl⟩, New.nil _ _, fun g _ => by simp⟩
  have O1 := hide o1
  clear ho o1
  have h0s : ((w.alloc (.cells #[.slice A1 p.parts.length c1, .int .i64 p.open_, .int .i64 p.first] 30)).alloc (.cells #[.int .i64 p.open_] 3)).heap.size = w.heap.size + 2 := by simp
  go_enter Tryz.func26, Tryz.ntmps26
  go_wp2
  go_loopw [3, 4, 13] (fun v nx i wr => (∃ j : Nat, j ≤ p.parts.length ∧ nx = .int .i64 (p.after j) ∧ i = .int .i64 j ∧ (∀ a (h : a < p.parts.length), a < j → p.fine a h) ∧ ∃ vs, OwS wr (w.heap.size + 1) 3 1 intC v (p.nums j) vs []) ∧ Below w.heap.size w wr ∧ Row wr w.heap.size 30 [.slice A1 p.parts.length c1, .int .i64 p.open_, .int .i64 p.first]) (fun _ _ i _ => p.parts.length - (intOf i).toNat)
  case atStart => exact ⟨⟨0, Nat.zero_le _, rfl, rfl, fun a h1 h => absurd h (by omega), _, HOW0.out⟩, hw1, R1⟩
  case round =>
    obtain ⟨⟨j, hj, rfl, rfl, ha, vs, how⟩, hbw, Rw⟩ := hrel
    have HA := hide ha
    have HB := hide hbw
    have lr := Rw.lt
    clear ha hbw R1 hw1 N1 HOW0 h0s
    obtain ⟨fv, hov0, hnv⟩ := how.toOw
    have hlenL := hide (p.nums_len hj)
    obtain ⟨Av, cv, rfl, hv1, hv2⟩ := hov0.slice
    have HOW := hide how
    have hvl := how.lt
    have hfrom := hide (ownsRow_from how.own)
    clear how hov0 hnv
    by_cases hlt : j < p.parts.length
    · obtain ⟨g, off, ws, fi, rfl, hgm, hfi, hwl, hcs, hov⟩ := (O1.out.below HB.out hf).elem LogPart.cells_len hlt
      obtain ⟨rfl, y0, y1, y2, y3, _⟩ := hov.oLogPart
      have hgl := hf g hgm
      have hgw := Nat.lt_of_lt_of_le hgl HB.out.size
      have p0 := hcs 0 _ rfl
      have p1 := hcs 1 _ rfl
      have p2 := hcs 2 _ rfl
      have p3 := hcs 3 _ rfl
      simp only [Nat.add_zero] at p0
      have hfine := hide (p.fine_iff j hlt)
      have hnx := hide (p.after_succ j hlt)
      have hstep := hide (p.fine_step j hlt HA.out)
      have hsucc := hide (p.nums_succ hlt)
      have hmem := hide (p.mem_nums hj)
      have hno := hide (fun (h : ¬ p.fine j hlt) => tb_false (p := p.ok) (fun hh => h (hh.2.2.1 j hlt)))
      clear hcs hov hfi
      obtain ⟨x, hx⟩ : ∃ x, p.parts[j] = x := ⟨_, rfl⟩
      rw [hx] at p0 p1 p2 p3 hfine hnx hsucc y0
      obtain ⟨q, hq⟩ : ∃ q, p.after j = q := ⟨_, rfl⟩
      rw [hq] at hfine ⊢
      have HBX : Hid (Below w.heap.size w (wr.alloc (.cells #[.int .i64 x.num, .int .i64 x.first, .int .i64 x.next, .int .i64 x.size] 75))) := hide (HB.out.trans (((Below.refl wr.heap.size wr).alloc (Nat.le_refl _) _).mono HB.out.size))
      have HX := hide (HOW.out.alloc (.cells #[.int .i64 x.num, .int .i64 x.first, .int .i64 x.next, .int .i64 x.size] 75))
      have Rw2 := Rw.alloc (.cells #[.int .i64 x.num, .int .i64 x.first, .int .i64 x.next, .int .i64 x.size] 75)
      have hne : (Value.slice Av (p.nums j).length cv).ownBlock ≠ some wr.heap.size := fun e => by have := hvl _ e; omega
      obtain ⟨L, hL⟩ : ∃ L, p.nums j = L := ⟨_, rfl⟩
      rw [hL] at HX hmem hsucc hlenL hne hv1 ⊢
      clear HOW hvl hfrom
      obtain ⟨fv2, HXO, HXN⟩ := HX.out.toOw
      have HXO := hide HXO
      clear HXN
      go_wp2_with fail
      refine (containsInt_any L _ _ _ _ _ _ HXO.out).mono ?_
      rintro e w' ⟨rfl, rfl⟩
      by_cases h0 : ¬ x.num ∈ L
      · rw [tb_false h0]
        have H0 := hide h0
        clear h0
        go_wp2_with fail
        refine (inRange_any _ _ _ _).mono ?_
        rintro e w' ⟨rfl, rfl⟩
        by_cases h1 : 1 ≤ x.num ∧ x.num ≤ 999999
        · rw [tb_true h1]
          have H1 := hide h1
          clear h1
          go_wp2_with fail
          refine (inRange_any _ _ _ _).mono ?_
          rintro e w' ⟨rfl, rfl⟩
          by_cases h2 : 0 ≤ x.size ∧ x.size ≤ 20000
          · rw [tb_true h2]
            have H2 := hide h2
            clear h2
            by_cases h3 : x.first = q
            · have b3 : (x.first != q) = false := by simp [h3]
              have H3 := hide h3
              clear h3
              go_wp2_with fail
              refine (inRange_any _ _ _ _).mono ?_
              rintro e w' ⟨rfl, rfl⟩
              by_cases h4 : x.first ≤ x.next ∧ x.next ≤ 1000000
              · rw [tb_true h4]
                have H4 := hide h4
                clear h4
                have HF := hide (hstep.out (hfine.out.2 ⟨H1.out, fun e => H0.out ((hmem.out _).2 (.inl e)), H3.out, H4.out, H2.out, fun a h e => H0.out ((hmem.out _).2 (.inr ⟨a, h, e⟩))⟩))
                have hsz : L.length ≤ 2097153 := by have := hlenL.out; omega
                obtain ⟨W2, hW2⟩ : ∃ W2, wr.alloc (.cells #[.int .i64 x.num, .int .i64 x.first, .int .i64 x.next, .int .i64 x.size] 75) = W2 := ⟨_, rfl⟩
                have RX : Row W2 wr.heap.size 75 [.int .i64 x.num, .int .i64 x.first, .int .i64 x.next, .int .i64 x.size] := hW2 ▸ Row.new wr _ _
                have x0 := RX.cell 0
                have x2 := RX.cell 2
                have lx := RX.lt
                rw [hW2] at HX Rw2 HBX ⊢
                have hbW : w.heap.size + 1 ≤ W2.heap.size := by have := Rw2.lt; omega
                clear p0 p1 p2 p3 hW2 HXO
                go_wp2
                go_region_held3 (fun w' => w'.cell? ⟨wr.heap.size, 0, none⟩ = some (.int .i64 x.num) ∧ w'.cell? ⟨wr.heap.size, 2, none⟩ = some (.int .i64 x.next))
                  (first | go_keep | exact ⟨cell_keep hgrow (by go_simp) (by first | exact lx | (simp; omega)) hne, cell_keep hgrow (by go_simp) (by first | exact lx | (simp; omega)) hne⟩)
                  (first | (refine step_append_lies _ (by rfl) _ _ _ (by rfl) (w.heap.size + 1) 3 i0 (.int .i64 0) 1 8 Tryz.underlying45 hi hz0 hz1 hz2 rfl (by decide) _ _ _ (by rfl) ((HX.out.drewN 1).alloc _).own ⟨_, 0, none⟩ 1 1 [.int .i64 x.num] (by rfl) rfl (cell_one_new _ _ _) (by intro u hu; simp at hu; subst hu; rfl) (by decide) (by unfold maxLen; omega) (by omega) (by simp; omega) _ rfl ?_; intro g1 cap w1 hown1 hgrow hat hlt1))
                have ha : (Value.slice (some ⟨g1, 0, none⟩) (L.length + 1) cap).ownBlock = (Value.slice Av L.length cv).ownBlock ∨ (Value.slice (some ⟨g1, 0, none⟩) (L.length + 1) cap).ownBlock = some ((W2.drewN 1).alloc (.cells #[.int .i64 x.num] 3)).heap.size := hat.elim (fun e => .inl e.symm) (fun e => .inr (congrArg some e))
                have hfrom := ownsRow_from HX.out.own
                have HP := hide (((HX.out.drewN 1).alloc (.cells #[.int .i64 x.num] 3)).push x.num (ux := [.int .i64 x.num]) (fx := []) ⟨[], [], ⟨rfl, y0, rfl⟩, by simp [OwC], rfl⟩ (by simpa using New.nil _ _) (fun g _ => by simp) hown1 hgrow ha)
                have hb2 : Below w.heap.size W2 ((W2.drewN 1).alloc (.cells #[.int .i64 x.num] 3)) := (below_drewN (Below.refl _ _) 1).alloc (by simp; omega) _
                have hb3 := (GB.step hgrow ha).toBelow (B := w.heap.size) (by simp; omega) (fun g hg => by have := hfrom g hg; omega)
                have HB3 := hide (HBX.out.trans (hb2.trans hb3))
                have HR3 := hide ((GB.step hgrow ha).row ((Rw2.drewN 1).alloc (.cells #[.int .i64 x.num] 3)) (fun e => by have := hfrom _ e; omega))
                clear hat ha hgrow hown1 hb2 hb3 x0 x2 RX Rw2
                go_wp2
                go_roundw
                case rel => exact ⟨⟨j + 1, by omega, by rw [hnx.out], by go_num, HF.out, _, by rw [hsucc.out]; exact HP.out⟩, HB3.out, HR3.out⟩
                case measure => simp [intOf]; omega
              · have HT := hide (hno.out (fun hh => h4 (hfine.out.1 hh).2.2.2.1))
                rw [tb_false h4]
                clear h4
                go_wp2
                go_ret
                exact ⟨ret_bool HT.out.symm, HBX.out⟩
            · have HT := hide (hno.out (fun hh => h3 (hfine.out.1 hh).2.2.1))
              have b3 : (x.first != q) = true := by simpa using h3
              clear h3
              go_wp2
              go_ret
              exact ⟨ret_bool HT.out.symm, HBX.out⟩
          · have HT := hide (hno.out (fun hh => h2 (hfine.out.1 hh).2.2.2.2.1))
            rw [tb_false h2]
            clear h2
            go_wp2
            go_ret
            exact ⟨ret_bool HT.out.symm, HBX.out⟩
        · have HT := hide (hno.out (fun hh => h1 (hfine.out.1 hh).1))
          rw [tb_false h1]
          clear h1
          go_wp2
          go_ret
          exact ⟨ret_bool HT.out.symm, HBX.out⟩
      · have HT := hide (hno.out (fun hh => h0 (fun hm => by have h := hfine.out.1 hh; rcases (hmem.out _).1 hm with h1 | ⟨a, ha, h1⟩; exact h.2.1 h1; exact h.2.2.2.2.2 a ha h1)))
        rw [tb_true (Classical.not_not.1 h0)]
        clear h0
        go_wp2
        go_ret
        exact ⟨ret_bool HT.out.symm, HBX.out⟩
    · obtain rfl : j = p.parts.length := by omega
      have r0 := Rw.cell 0
      have r1 := Rw.cell 1
      have r2 := Rw.cell 2
      have hall := hide (fun i h => HA.out i h h)
      by_cases h40 : (p.parts.length : Int) ≤ 40
      · go_wp2_with fail
        refine (inRange_any _ _ _ _).mono ?_
        rintro e w' ⟨rfl, rfl⟩
        by_cases hop : 1 ≤ p.open_ ∧ p.open_ ≤ 999999
        · rw [tb_true hop]
          have HT := hide (show tb p.ok = tb (p.first = p.after p.parts.length) from congrArg tb (propext ⟨fun h => h.2.2.2, fun h => ⟨by omega, hop, fun i h => hall.out i h, h⟩⟩))
          clear hop
          by_cases he : p.first = p.after p.parts.length
          · have hb : (p.first == p.after p.parts.length) = true := by simpa using he
            rw [tb_true he] at HT
            clear he
            go_wp2
            go_ret
            exact ⟨ret_bool HT.out.symm, HB.out⟩
          · have hb : (p.first == p.after p.parts.length) = false := by simpa using he
            rw [tb_false he] at HT
            clear he
            go_wp2
            go_ret
            exact ⟨ret_bool HT.out.symm, HB.out⟩
        · rw [tb_false hop]
          have HT := hide (tb_false (p := p.ok) (fun h => hop h.2.1))
          clear hop
          go_wp2
          go_ret
          exact ⟨ret_bool HT.out.symm, HB.out⟩
      · have HT := hide (tb_false (p := p.ok) (fun h => h40 (by have := h.1; omega)))
        go_wp2
        go_ret
        exact ⟨ret_bool HT.out.symm, HB.out⟩
end Go.Proofs.YtddjgbhkfdpffaaGreatDoor
