/-
  The reference's LogPlanOk.
-/
import Derived.Test.YtddjgbhkfdpffaaGreatDoorOHLogPlan
import Derived.Test.YtddjgbhkfdpffaaGreatDoorOLog
set_option linter.unusedVariables false
set_option linter.unusedSimpArgs false
namespace Go.Proofs.YtddjgbhkfdpffaaGreatDoor
open Go.ChangeShapes Go.WideShapes Go.ChangeAt Go.RowKit

set_option maxRecDepth 100000 in
set_option maxHeartbeats 2000000 in
theorem specLogPlanOk_any (p : LogPlan) (us : List Value) (fp : List Nat) (w : World) (ho : OwC w p.cells us fp) (hf : Lt fp w.heap.size) (hbk : p.bulk ≤ 1048576) :
    Calls Tryz.prog 134 #[.agg us.toArray] w fun e w' => e = .returned (.bool (tb p.ok)) ∧ Below w.heap.size w w' := by
  obtain ⟨A1, c1, f1, rfl, o1, w1, w2, rfl⟩ := ho.oLogPlan
  obtain ⟨_, hcap, hmx⟩ := o1.nlen
  unfold maxLen at hmx
  have hw1 : Below w.heap.size w (w.alloc (.cells #[.slice A1 p.parts.length c1, .int .i64 p.open_, .int .i64 p.first] 30)) := (Below.refl _ _).alloc (Nat.le_refl _) _
  have R1 : Row (w.alloc (.cells #[.slice A1 p.parts.length c1, .int .i64 p.open_, .int .i64 p.first] 30)) w.heap.size 30 [.slice A1 p.parts.length c1, .int .i64 p.open_, .int .i64 p.first] := Row.new w _ _
  have O1 := hide o1
  clear ho o1
  by_cases h40 : (p.parts.length : Int) ≤ 40
  · go_enter Tryz.func134, Tryz.ntmps134
    go_wp2_with fail
    refine (l6In_any _ _ _ _).mono ?_
    rintro e w' ⟨rfl, rfl⟩
    by_cases hop : 1 ≤ p.open_ ∧ p.open_ ≤ 999999
    · rw [tb_true hop]
      have HOP := hide hop
      clear hop
      go_wp2
      go_loopw [3, 4] (fun nx i wr => (∃ j : Nat, j ≤ p.parts.length ∧ nx = .int .i64 (p.after j) ∧ i = .int .i64 j ∧ ∀ a (h : a < p.parts.length), a < j → p.fine a h) ∧ Below w.heap.size w wr ∧ Row wr w.heap.size 30 [.slice A1 p.parts.length c1, .int .i64 p.open_, .int .i64 p.first]) (fun _ i _ => p.parts.length - (intOf i).toNat)
      case atStart => exact ⟨⟨0, Nat.zero_le _, rfl, rfl, fun a h1 h => absurd h (by omega)⟩, hw1, R1⟩
      case round =>
        obtain ⟨⟨j, hj, rfl, rfl, ha⟩, hbw, Rw⟩ := hrel
        have HA := hide ha
        have HB := hide hbw
        have lr := Rw.lt
        have r0 := Rw.cell 0
        have r1 := Rw.cell 1
        have r2 := Rw.cell 2
        clear ha hbw R1 hw1
        by_cases hlt : j < p.parts.length
        · obtain ⟨g, off, ws, fi, rfl, hgm, hfi, hwl, hcs, hov⟩ := (O1.out.below HB.out hf).elem LogPart.cells_len hlt
          obtain ⟨rfl, y0, y1, y2, y3, _⟩ := hov.oLogPart
          have hgl := hf g hgm
          have hgw := Nat.lt_of_lt_of_le hgl HB.out.size
          have p0 := hcs 0 _ rfl
          have p1 := hcs 1 _ rfl
          have p2 := hcs 2 _ rfl
          have p3 := hcs 3 _ rfl
          simp only [Nat.add_zero] at p0
          have hfine := hide (p.fine_iff j hlt)
          have hnx := hide (p.after_succ j hlt)
          have hstep := hide (p.fine_step j hlt HA.out)
          have hno := hide (fun (h : ¬ p.fine j hlt) => tb_false (p := p.parts.length ≤ 40 ∧ (1 ≤ p.open_ ∧ p.open_ ≤ 999999) ∧ (∀ i (h : i < p.parts.length), p.fine i h) ∧ p.first = p.after p.parts.length) (fun hh => h (hh.2.2.1 j hlt)))
          clear hcs hov hfi
          have hnum := hide (fun (m : Nat) (hm : m < j) => rfl (a := (p.parts[m]'(by omega)).num))
          obtain ⟨x, hx⟩ : ∃ x, p.parts[j] = x := ⟨_, rfl⟩
          rw [hx] at p0 p1 p2 p3 hfine hnx
          obtain ⟨q, hq⟩ : ∃ q, p.after j = q := ⟨_, rfl⟩
          rw [hq] at hfine ⊢
          go_wp2_with fail
          refine (l6In_any _ _ _ _).mono ?_
          rintro e w' ⟨rfl, rfl⟩
          by_cases h0 : 1 ≤ x.num ∧ x.num ≤ 999999
          · rw [tb_true h0]
            have H0 := hide h0
            clear h0
            by_cases h1 : x.num ≠ p.open_
            · have H1 := hide h1
              have b1 : (x.num == p.open_) = false := by simp [h1]
              clear h1
              by_cases h2 : x.first = q
              · have H2 := hide h2
                have b2 : (x.first != q) = false := by simp [h2]
                clear h2
                by_cases h3 : x.first ≤ x.next
                · have H3 := hide h3
                  have b3 : decide (x.next < x.first) = false := by simp; omega
                  by_cases h4 : x.next ≤ 1000000
                  · have H4 := hide h4
                    have b4 : decide (1000000 < x.next) = false := by simp; omega
                    go_wp2_with fail
                    refine (l6In_any _ _ _ _).mono ?_
                    rintro e w' ⟨rfl, rfl⟩
                    by_cases h5 : 0 ≤ x.size ∧ x.size ≤ 20000
                    · rw [tb_true h5]
                      have H5 := hide h5
                      clear h5
                      have hgwx : wr.heap.size < (wr.alloc (.cells #[.int .i64 x.num, .int .i64 x.first, .int .i64 x.next, .int .i64 x.size] 75)).heap.size := by simp
                      have RX : Row (wr.alloc (.cells #[.int .i64 x.num, .int .i64 x.first, .int .i64 x.next, .int .i64 x.size] 75)) wr.heap.size 75 [.int .i64 x.num, .int .i64 x.first, .int .i64 x.next, .int .i64 x.size] := Row.new wr _ _
                      have Rw2 := Rw.alloc (.cells #[.int .i64 x.num, .int .i64 x.first, .int .i64 x.next, .int .i64 x.size] 75)
                      have HBX : Hid (Below w.heap.size w (wr.alloc (.cells #[.int .i64 x.num, .int .i64 x.first, .int .i64 x.next, .int .i64 x.size] 75))) := hide (HB.out.trans (((Below.refl wr.heap.size wr).alloc (Nat.le_refl _) _).mono HB.out.size))
                      clear p0 p1 p2 p3 r0 r1 r2
                      go_wp2
                      obtain ⟨W2, hW2⟩ : ∃ W2, wr.alloc (.cells #[.int .i64 x.num, .int .i64 x.first, .int .i64 x.next, .int .i64 x.size] 75) = W2 := ⟨_, rfl⟩
                      rw [hW2] at RX Rw2 HBX hgwx ⊢
                      go_loopw [6] (fun i wq => (∃ m : Nat, m ≤ j ∧ i = .int .i64 m ∧ ∀ a (h : a < j), a < m → (p.parts[a]'(by omega)).num ≠ x.num) ∧ ∃ nq, wq = W2.drewN nq) (fun i _ => j - (intOf i).toNat)
                      case atStart => exact ⟨⟨0, Nat.zero_le _, rfl, fun a h1 h => absurd h (by omega)⟩, 0, rfl⟩
                      case round =>
                        obtain ⟨⟨m, hm, rfl, hu⟩, nq, rfl⟩ := hrel
                        have HU := hide hu
                        clear hu
                        have r0 := Rw2.cell 0
                        have x0 := RX.cell 0
                        have x2 := RX.cell 2
                        by_cases hml : m < j
                        · have hmp : m < p.parts.length := by omega
                          obtain ⟨g2, off2, ws, fi2, e2, hgm2, hfi2, hwl2, hcs2, hov2⟩ := (O1.out.below HBX.out hf).elem LogPart.cells_len hmp
                          injection e2 with e2
                          injection e2 with e2 e3
                          subst e2 e3
                          obtain ⟨rfl, z0, z1, z2, z3, _⟩ := hov2.oLogPart
                          have n0 := hcs2 0 _ rfl
                          simp only [Nat.add_zero] at n0
                          clear hcs2 hov2
                          by_cases he : p.parts[m].num = x.num
                          · have HT := hide (hno.out (fun hh => (hfine.out.1 hh).2.2.2.2.2 m hml he))
                            have be : (p.parts[m].num == x.num) = true := by simpa using he
                            clear he
                            go_wp2
                            go_quiet (fail)
                            go_wp2
                            go_ret
                            exact ⟨ret_bool HT.out.symm, HBX.out.trans ⟨rfl, rfl, rfl, Nat.le_refl _, fun _ _ => rfl⟩⟩
                          · have HE := hide he
                            have be : (p.parts[m].num == x.num) = false := by simpa using he
                            clear he
                            go_wp2
                            go_quiet (fail)
                            go_wp2
                            go_roundw
                            case rel =>
                              refine ⟨⟨m + 1, by omega, by go_num, fun a h1 h => ?_⟩, _, rfl⟩
                              by_cases e : a < m
                              · exact HU.out a h1 e
                              · obtain rfl : a = m := by omega
                                exact HE.out
                            case measure => simp [intOf]; omega
                        · obtain rfl : m = j := by omega
                          have HF := hide (hstep.out (hfine.out.2 ⟨H0.out, H1.out, H2.out, ⟨by omega, by omega⟩, H5.out, fun a h => HU.out a h h⟩))
                          have HQ := hide (Rw2.drewN nq)
                          go_wp2
                          go_roundw
                          case rel => exact ⟨⟨m + 1, by omega, by rw [hnx.out], by go_num, HF.out⟩, HBX.out.trans ⟨rfl, rfl, rfl, Nat.le_refl _, fun _ _ => rfl⟩, HQ.out⟩
                          case measure => simp [intOf]; omega
                    · have HT := hide (hno.out (fun hh => h5 (by have h := hfine.out.1 hh; exact h.2.2.2.2.1)))
                      rw [tb_false h5]
                      clear h5
                      go_wp2
                      go_ret
                      exact ⟨ret_bool HT.out.symm, HB.out.trans (((Below.refl wr.heap.size wr).alloc (Nat.le_refl _) _).mono HB.out.size)⟩
                  · have HT := hide (hno.out (fun hh => h4 (by have h := hfine.out.1 hh; exact h.2.2.2.1.2)))
                    have b4 : decide (1000000 < x.next) = true := by simp; omega
                    go_wp2
                    go_ret
                    exact ⟨ret_bool HT.out.symm, HB.out.trans (((Below.refl wr.heap.size wr).alloc (Nat.le_refl _) _).mono HB.out.size)⟩
                · have HT := hide (hno.out (fun hh => h3 (by have h := hfine.out.1 hh; exact h.2.2.2.1.1)))
                  have b3 : decide (x.next < x.first) = true := by simp; omega
                  go_wp2
                  go_ret
                  exact ⟨ret_bool HT.out.symm, HB.out.trans (((Below.refl wr.heap.size wr).alloc (Nat.le_refl _) _).mono HB.out.size)⟩
              · have HT := hide (hno.out (fun hh => h2 (by have h := hfine.out.1 hh; exact h.2.2.1)))
                have b2 : (x.first != q) = true := by simpa using h2
                clear h2
                go_wp2
                go_ret
                exact ⟨ret_bool HT.out.symm, HB.out.trans (((Below.refl wr.heap.size wr).alloc (Nat.le_refl _) _).mono HB.out.size)⟩
            · have HT := hide (hno.out (fun hh => h1 (by have h := hfine.out.1 hh; exact h.2.1)))
              have b1 : (x.num == p.open_) = true := by simpa using h1
              clear h1
              go_wp2
              go_ret
              exact ⟨ret_bool HT.out.symm, HB.out.trans (((Below.refl wr.heap.size wr).alloc (Nat.le_refl _) _).mono HB.out.size)⟩
          · have HT := hide (hno.out (fun hh => h0 (by have h := hfine.out.1 hh; exact h.1)))
            rw [tb_false h0]
            clear h0
            go_wp2
            go_ret
            exact ⟨ret_bool HT.out.symm, HB.out.trans (((Below.refl wr.heap.size wr).alloc (Nat.le_refl _) _).mono HB.out.size)⟩
        · obtain rfl : j = p.parts.length := by omega
          have HT := hide (show tb p.ok = tb (p.first = p.after p.parts.length) from congrArg tb (propext ⟨fun h => h.2.2.2, fun h => ⟨by omega, HOP.out, fun i h => HA.out i h h, h⟩⟩))
          by_cases he : p.first = p.after p.parts.length
          · have hb : (p.first == p.after p.parts.length) = true := by simpa using he
            rw [tb_true he] at HT
            clear he
            go_wp2
            go_ret
            exact ⟨ret_bool HT.out.symm, HB.out⟩
          · have hb : (p.first == p.after p.parts.length) = false := by simpa using he
            rw [tb_false he] at HT
            clear he
            go_wp2
            go_ret
            exact ⟨ret_bool HT.out.symm, HB.out⟩
    · rw [tb_false hop]
      have HT := hide (tb_false (p := p.ok) (fun h => hop h.2.1))
      clear hop
      go_wp2
      go_ret
      exact ⟨ret_bool HT.out.symm, hw1⟩
  · have HT := hide (tb_false (p := p.ok) (fun h => h40 (by have := h.1; omega)))
    go_enter Tryz.func134, Tryz.ntmps134
    go_wp2
    go_ret
    exact ⟨ret_bool HT.out.symm, hw1⟩
end Go.Proofs.YtddjgbhkfdpffaaGreatDoor
