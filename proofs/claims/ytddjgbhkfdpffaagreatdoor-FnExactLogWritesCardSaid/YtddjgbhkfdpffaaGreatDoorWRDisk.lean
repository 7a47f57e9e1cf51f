/-
  The reference's LogPlanOk. Records' bytes: the program's LogFrame and the reference's answer alike. A value of laws.DiskFile that came in, read as data. A value of laws.DiskMove that came in, read as data. A value of laws.Disk that came in, read as data.
-/
import Derived.Test.YtddjgbhkfdpffaaGreatDoorWDDiskWrite
import Derived.Test.YtddjgbhkfdpffaaGreatDoorWHLogState
import Derived.Test.YtddjgbhkfdpffaaGreatDoorWRead
set_option linter.unusedVariables false
set_option linter.unusedSimpArgs false
namespace Go.Proofs.YtddjgbhkfdpffaaGreatDoor
open Go.ChangeShapes Go.WideShapes Go.ChangeAt Go.RowKit

set_option maxRecDepth 100000 in
set_option maxHeartbeats 2000000 in
theorem specLogPlanOk_any (p : LogPlan) (us : List Value) (fp : List Nat) (w : World) (ho : OwC w p.cells us fp) (hf : Lt fp w.heap.size) (hbk : p.bulk ≤ 1048576) :
    Calls Tryz.prog 134 #[.agg us.toArray] w fun e w' => e = .returned (.bool (tb p.ok)) ∧ Below w.heap.size w w' := by
  obtain ⟨A1, c1, f1, rfl, o1, w1, w2, rfl⟩ := ho.oLogPlan
  obtain ⟨_, hcap, hmx⟩ := o1.nlen
  unfold maxLen at hmx
  have hw1 : Below w.heap.size w (w.alloc (.cells #[.slice A1 p.parts.length c1, .int .i64 p.open_, .int .i64 p.first] 30)) := (Below.refl _ _).alloc (Nat.le_refl _) _
  have R1 : Row (w.alloc (.cells #[.slice A1 p.parts.length c1, .int .i64 p.open_, .int .i64 p.first] 30)) w.heap.size 30 [.slice A1 p.parts.length c1, .int .i64 p.open_, .int .i64 p.first] := Row.new w _ _
  have O1 := hide o1
  clear ho o1
  by_cases h40 : (p.parts.length : Int) ≤ 40
  · go_enter Tryz.func134, Tryz.ntmps134
    go_wp2_with fail
    refine (l6In_any _ _ _ _).mono ?_
    rintro e w' ⟨rfl, rfl⟩
    by_cases hop : 1 ≤ p.open_ ∧ p.open_ ≤ 999999
    · rw [tb_true hop]
      have HOP := hide hop
      clear hop
      go_wp2
      go_loopw [3, 4] (fun nx i wr => (∃ j : Nat, j ≤ p.parts.length ∧ nx = .int .i64 (p.after j) ∧ i = .int .i64 j ∧ ∀ a (h : a < p.parts.length), a < j → p.fine a h) ∧ Below w.heap.size w wr ∧ Row wr w.heap.size 30 [.slice A1 p.parts.length c1, .int .i64 p.open_, .int .i64 p.first]) (fun _ i _ => p.parts.length - (intOf i).toNat)
      case atStart => exact ⟨⟨0, Nat.zero_le _, rfl, rfl, fun a h1 h => absurd h (by omega)⟩, hw1, R1⟩
      case round =>
        obtain ⟨⟨j, hj, rfl, rfl, ha⟩, hbw, Rw⟩ := hrel
        have HA := hide ha
        have HB := hide hbw
        have lr := Rw.lt
        have r0 := Rw.cell 0
        have r1 := Rw.cell 1
        have r2 := Rw.cell 2
        clear ha hbw R1 hw1
        by_cases hlt : j < p.parts.length
        · obtain ⟨g, off, ws, fi, rfl, hgm, hfi, hwl, hcs, hov⟩ := (O1.out.below HB.out hf).elem LogPart.cells_len hlt
          obtain ⟨rfl, y0, y1, y2, y3, _⟩ := hov.oLogPart
          have hgl := hf g hgm
          have hgw := Nat.lt_of_lt_of_le hgl HB.out.size
          have p0 := hcs 0 _ rfl
          have p1 := hcs 1 _ rfl
          have p2 := hcs 2 _ rfl
          have p3 := hcs 3 _ rfl
          simp only [Nat.add_zero] at p0
          have hfine := hide (p.fine_iff j hlt)
          have hnx := hide (p.after_succ j hlt)
          have hstep := hide (p.fine_step j hlt HA.out)
          have hno := hide (fun (h : ¬ p.fine j hlt) => tb_false (p := p.parts.length ≤ 40 ∧ (1 ≤ p.open_ ∧ p.open_ ≤ 999999) ∧ (∀ i (h : i < p.parts.length), p.fine i h) ∧ p.first = p.after p.parts.length) (fun hh => h (hh.2.2.1 j hlt)))
          clear hcs hov hfi
          have hnum := hide (fun (m : Nat) (hm : m < j) => rfl (a := (p.parts[m]'(by omega)).num))
          obtain ⟨x, hx⟩ : ∃ x, p.parts[j] = x := ⟨_, rfl⟩
          rw [hx] at p0 p1 p2 p3 hfine hnx
          obtain ⟨q, hq⟩ : ∃ q, p.after j = q := ⟨_, rfl⟩
          rw [hq] at hfine ⊢
          go_wp2_with fail
          refine (l6In_any _ _ _ _).mono ?_
          rintro e w' ⟨rfl, rfl⟩
          by_cases h0 : 1 ≤ x.num ∧ x.num ≤ 999999
          · rw [tb_true h0]
            have H0 := hide h0
            clear h0
            by_cases h1 : x.num ≠ p.open_
            · have H1 := hide h1
              have b1 : (x.num == p.open_) = false := by simp [h1]
              clear h1
              by_cases h2 : x.first = q
              · have H2 := hide h2
                have b2 : (x.first != q) = false := by simp [h2]
                clear h2
                by_cases h3 : x.first ≤ x.next
                · have H3 := hide h3
                  have b3 : decide (x.next < x.first) = false := by simp; omega
                  by_cases h4 : x.next ≤ 1000000
                  · have H4 := hide h4
                    have b4 : decide (1000000 < x.next) = false := by simp; omega
                    go_wp2_with fail
                    refine (l6In_any _ _ _ _).mono ?_
                    rintro e w' ⟨rfl, rfl⟩
                    by_cases h5 : 0 ≤ x.size ∧ x.size ≤ 20000
                    · rw [tb_true h5]
                      have H5 := hide h5
                      clear h5
                      have hgwx : wr.heap.size < (wr.alloc (.cells #[.int .i64 x.num, .int .i64 x.first, .int .i64 x.next, .int .i64 x.size] 75)).heap.size := by simp
                      have RX : Row (wr.alloc (.cells #[.int .i64 x.num, .int .i64 x.first, .int .i64 x.next, .int .i64 x.size] 75)) wr.heap.size 75 [.int .i64 x.num, .int .i64 x.first, .int .i64 x.next, .int .i64 x.size] := Row.new wr _ _
                      have Rw2 := Rw.alloc (.cells #[.int .i64 x.num, .int .i64 x.first, .int .i64 x.next, .int .i64 x.size] 75)
                      have HBX : Hid (Below w.heap.size w (wr.alloc (.cells #[.int .i64 x.num, .int .i64 x.first, .int .i64 x.next, .int .i64 x.size] 75))) := hide (HB.out.trans (((Below.refl wr.heap.size wr).alloc (Nat.le_refl _) _).mono HB.out.size))
                      clear p0 p1 p2 p3 r0 r1 r2
                      go_wp2
                      obtain ⟨W2, hW2⟩ : ∃ W2, wr.alloc (.cells #[.int .i64 x.num, .int .i64 x.first, .int .i64 x.next, .int .i64 x.size] 75) = W2 := ⟨_, rfl⟩
                      rw [hW2] at RX Rw2 HBX hgwx ⊢
                      go_loopw [6] (fun i wq => (∃ m : Nat, m ≤ j ∧ i = .int .i64 m ∧ ∀ a (h : a < j), a < m → (p.parts[a]'(by omega)).num ≠ x.num) ∧ ∃ nq, wq = W2.drewN nq) (fun i _ => j - (intOf i).toNat)
                      case atStart => exact ⟨⟨0, Nat.zero_le _, rfl, fun a h1 h => absurd h (by omega)⟩, 0, rfl⟩
                      case round =>
                        obtain ⟨⟨m, hm, rfl, hu⟩, nq, rfl⟩ := hrel
                        have HU := hide hu
                        clear hu
                        have r0 := Rw2.cell 0
                        have x0 := RX.cell 0
                        have x2 := RX.cell 2
                        by_cases hml : m < j
                        · have hmp : m < p.parts.length := by omega
                          obtain ⟨g2, off2, ws, fi2, e2, hgm2, hfi2, hwl2, hcs2, hov2⟩ := (O1.out.below HBX.out hf).elem LogPart.cells_len hmp
                          injection e2 with e2
                          injection e2 with e2 e3
                          subst e2 e3
                          obtain ⟨rfl, z0, z1, z2, z3, _⟩ := hov2.oLogPart
                          have n0 := hcs2 0 _ rfl
                          simp only [Nat.add_zero] at n0
                          clear hcs2 hov2
                          by_cases he : p.parts[m].num = x.num
                          · have HT := hide (hno.out (fun hh => (hfine.out.1 hh).2.2.2.2.2 m hml he))
                            have be : (p.parts[m].num == x.num) = true := by simpa using he
                            clear he
                            go_wp2
                            go_quiet (fail)
                            go_wp2
                            go_ret
                            exact ⟨ret_bool HT.out.symm, HBX.out.trans ⟨rfl, rfl, rfl, Nat.le_refl _, fun _ _ => rfl⟩⟩
                          · have HE := hide he
                            have be : (p.parts[m].num == x.num) = false := by simpa using he
                            clear he
                            go_wp2
                            go_quiet (fail)
                            go_wp2
                            go_roundw
                            case rel =>
                              refine ⟨⟨m + 1, by omega, by go_num, fun a h1 h => ?_⟩, _, rfl⟩
                              by_cases e : a < m
                              · exact HU.out a h1 e
                              · obtain rfl : a = m := by omega
                                exact HE.out
                            case measure => simp [intOf]; omega
                        · obtain rfl : m = j := by omega
                          have HF := hide (hstep.out (hfine.out.2 ⟨H0.out, H1.out, H2.out, ⟨by omega, by omega⟩, H5.out, fun a h => HU.out a h h⟩))
                          have HQ := hide (Rw2.drewN nq)
                          go_wp2
                          go_roundw
                          case rel => exact ⟨⟨m + 1, by omega, by rw [hnx.out], by go_num, HF.out⟩, HBX.out.trans ⟨rfl, rfl, rfl, Nat.le_refl _, fun _ _ => rfl⟩, HQ.out⟩
                          case measure => simp [intOf]; omega
                    · have HT := hide (hno.out (fun hh => h5 (by have h := hfine.out.1 hh; exact h.2.2.2.2.1)))
                      rw [tb_false h5]
                      clear h5
                      go_wp2
                      go_ret
                      exact ⟨ret_bool HT.out.symm, HB.out.trans (((Below.refl wr.heap.size wr).alloc (Nat.le_refl _) _).mono HB.out.size)⟩
                  · have HT := hide (hno.out (fun hh => h4 (by have h := hfine.out.1 hh; exact h.2.2.2.1.2)))
                    have b4 : decide (1000000 < x.next) = true := by simp; omega
                    go_wp2
                    go_ret
                    exact ⟨ret_bool HT.out.symm, HB.out.trans (((Below.refl wr.heap.size wr).alloc (Nat.le_refl _) _).mono HB.out.size)⟩
                · have HT := hide (hno.out (fun hh => h3 (by have h := hfine.out.1 hh; exact h.2.2.2.1.1)))
                  have b3 : decide (x.next < x.first) = true := by simp; omega
                  go_wp2
                  go_ret
                  exact ⟨ret_bool HT.out.symm, HB.out.trans (((Below.refl wr.heap.size wr).alloc (Nat.le_refl _) _).mono HB.out.size)⟩
              · have HT := hide (hno.out (fun hh => h2 (by have h := hfine.out.1 hh; exact h.2.2.1)))
                have b2 : (x.first != q) = true := by simpa using h2
                clear h2
                go_wp2
                go_ret
                exact ⟨ret_bool HT.out.symm, HB.out.trans (((Below.refl wr.heap.size wr).alloc (Nat.le_refl _) _).mono HB.out.size)⟩
            · have HT := hide (hno.out (fun hh => h1 (by have h := hfine.out.1 hh; exact h.2.1)))
              have b1 : (x.num == p.open_) = true := by simpa using h1
              clear h1
              go_wp2
              go_ret
              exact ⟨ret_bool HT.out.symm, HB.out.trans (((Below.refl wr.heap.size wr).alloc (Nat.le_refl _) _).mono HB.out.size)⟩
          · have HT := hide (hno.out (fun hh => h0 (by have h := hfine.out.1 hh; exact h.1)))
            rw [tb_false h0]
            clear h0
            go_wp2
            go_ret
            exact ⟨ret_bool HT.out.symm, HB.out.trans (((Below.refl wr.heap.size wr).alloc (Nat.le_refl _) _).mono HB.out.size)⟩
        · obtain rfl : j = p.parts.length := by omega
          have HT := hide (show tb p.ok = tb (p.first = p.after p.parts.length) from congrArg tb (propext ⟨fun h => h.2.2.2, fun h => ⟨by omega, HOP.out, fun i h => HA.out i h h, h⟩⟩))
          by_cases he : p.first = p.after p.parts.length
          · have hb : (p.first == p.after p.parts.length) = true := by simpa using he
            rw [tb_true he] at HT
            clear he
            go_wp2
            go_ret
            exact ⟨ret_bool HT.out.symm, HB.out⟩
          · have hb : (p.first == p.after p.parts.length) = false := by simpa using he
            rw [tb_false he] at HT
            clear he
            go_wp2
            go_ret
            exact ⟨ret_bool HT.out.symm, HB.out⟩
    · rw [tb_false hop]
      have HT := hide (tb_false (p := p.ok) (fun h => hop h.2.1))
      clear hop
      go_wp2
      go_ret
      exact ⟨ret_bool HT.out.symm, hw1⟩
  · have HT := hide (tb_false (p := p.ok) (fun h => h40 (by have := h.1; omega)))
    go_enter Tryz.func134, Tryz.ntmps134
    go_wp2
    go_ret
    exact ⟨ret_bool HT.out.symm, hw1⟩
end Go.Proofs.YtddjgbhkfdpffaaGreatDoor
set_option linter.unusedVariables false
set_option linter.unusedSimpArgs false
namespace Go.Proofs.YtddjgbhkfdpffaaGreatDoor
open Go.ChangeShapes Go.WideShapes Go.ChangeAt Go.RowKit

/-- a literal of five bytes as a text -/
theorem size5 (a b c d f : Int) : (strOfNums [a, b, c, d, f]).size = 5 := rfl
theorem run_conv5 {P : Program} (src dst e : TypeId) (hs : P.underlying src = some (.slice e)) (he : P.underlying e = some (.int .u8)) (hd : P.underlying dst = some .string)
    (w : World) (a b c d f : Int) (g : Nat) (hg : g = w.heap.size) (n : Nat) :
    (convert src dst (.slice (some ⟨g, 0, none⟩) 5 n)).run P (w.alloc (.cells #[.int .u8 a, .int .u8 b, .int .u8 c, .int .u8 d, .int .u8 f] e)) =
      .ok (.string (strOfNums [a, b, c, d, f])) (w.alloc (.cells #[.int .u8 a, .int .u8 b, .int .u8 c, .int .u8 d, .int .u8 f] e)) := by
  subst hg
  refine run_convert_bytes_arg _ src e hs he _ 0 5 n [a, b, c, d, f] rfl (fun i hi => ?_) dst hd
  rw [World.cell?_alloc_new]
  match i, hi with
  | 0, _ => rfl
  | 1, _ => rfl
  | 2, _ => rfl
  | 3, _ => rfl
  | 4, _ => rfl

def LogRecord.ok (r : LogRecord) : Prop := 1 ≤ r.pos ∧ r.pos ≤ 999999 ∧ r.data.size ≤ 2000
def LogRecord.bytes (r : LogRecord) : ByteArray := strOfNums [(r.data.size : Int) / 256, (r.data.size : Int) % 256, r.pos / 65536, r.pos / 256 % 256, r.pos % 256] ++ r.data
noncomputable def LogRecord.frame (r : LogRecord) : ByteArray := if tb r.ok = true then r.bytes else .empty

set_option maxRecDepth 100000 in
theorem implFrameOk_any (p : Int) (d : ByteArray) (w : World) (hs : d.size ≤ maxLen) :
    Calls Tryz.prog 132 #[.agg #[.int .i64 p, .string d]] w fun e w' => e = .returned (.bool (tb (LogRecord.mk p d).ok)) ∧ Below w.heap.size w w' := by
  unfold maxLen at hs
  by_cases hp : 1 ≤ p ∧ p ≤ 999999
  · by_cases hd : (d.size : Int) ≤ 2000
    · have HT := hide (tb_true (p := (LogRecord.mk p d).ok) ⟨hp.1, hp.2, by show d.size ≤ 2000; omega⟩)
      go_enter Tryz.func132, Tryz.ntmps132
      go_wp2_with fail
      refine (inRange_any _ _ _ _).mono ?_
      rintro e w' ⟨rfl, rfl⟩
      rw [tb_true hp]
      go_wp2
      go_ret
      exact ⟨ret_bool HT.out.symm, (Below.refl _ _).alloc (Nat.le_refl _) _⟩
    · have HT := hide (tb_false (p := (LogRecord.mk p d).ok) (fun h => hd (by have := h.2.2; change d.size ≤ 2000 at this; omega)))
      go_enter Tryz.func132, Tryz.ntmps132
      go_wp2_with fail
      refine (inRange_any _ _ _ _).mono ?_
      rintro e w' ⟨rfl, rfl⟩
      rw [tb_true hp]
      go_wp2
      go_ret
      exact ⟨ret_bool (by rw [HT.out]; simp; omega), (Below.refl _ _).alloc (Nat.le_refl _) _⟩
  · have HT := hide (tb_false (p := (LogRecord.mk p d).ok) (fun h => hp ⟨h.1, h.2.1⟩))
    go_enter Tryz.func132, Tryz.ntmps132
    go_wp2_with fail
    refine (inRange_any _ _ _ _).mono ?_
    rintro e w' ⟨rfl, rfl⟩
    rw [tb_false hp]
    go_wp2
    go_ret
    exact ⟨ret_bool HT.out.symm, (Below.refl _ _).alloc (Nat.le_refl _) _⟩
set_option maxRecDepth 100000 in
theorem implFrame_any (p : Int) (d : ByteArray) (w : World) (h : (LogRecord.mk p d).ok) :
    Calls Tryz.prog 109 #[.agg #[.int .i64 p, .string d]] w fun e w' => e = .returned (.string (LogRecord.mk p d).bytes) ∧ Below w.heap.size w w' := by
  obtain ⟨h1, h2, h3⟩ := h
  change 1 ≤ p at h1
  change p ≤ 999999 at h2
  change d.size ≤ 2000 at h3
  have hcv := fun (u : World) => run_conv5 (P := Tryz.prog) 59 9 5 Tryz.underlying59 Tryz.underlying5 Tryz.underlying9 u
  have hsz := size5
  go_enter Tryz.func109, Tryz.ntmps109
  go_wp2
  go_ret
  exact ⟨rfl, ((Below.refl _ _).alloc (Nat.le_refl _) _).alloc (by simp) _⟩
set_option maxRecDepth 100000 in
theorem specRecordOk_any (p : Int) (d : ByteArray) (w : World) (hs : d.size ≤ maxLen) :
    Calls Tryz.prog 105 #[.agg #[.int .i64 p, .string d]] w fun e w' => e = .returned (.bool (tb (LogRecord.mk p d).ok)) ∧ Below w.heap.size w w' := by
  unfold maxLen at hs
  by_cases hp : 1 ≤ p ∧ p ≤ 999999
  · by_cases hd : (d.size : Int) ≤ 2000
    · have HT := hide (tb_true (p := (LogRecord.mk p d).ok) ⟨hp.1, hp.2, by show d.size ≤ 2000; omega⟩)
      go_enter Tryz.func105, Tryz.ntmps105
      go_wp2_with fail
      refine (l6In_any _ _ _ _).mono ?_
      rintro e w' ⟨rfl, rfl⟩
      rw [tb_true hp]
      go_wp2
      go_ret
      exact ⟨ret_bool HT.out.symm, (Below.refl _ _).alloc (Nat.le_refl _) _⟩
    · have HT := hide (tb_false (p := (LogRecord.mk p d).ok) (fun h => hd (by have := h.2.2; change d.size ≤ 2000 at this; omega)))
      go_enter Tryz.func105, Tryz.ntmps105
      go_wp2_with fail
      refine (l6In_any _ _ _ _).mono ?_
      rintro e w' ⟨rfl, rfl⟩
      rw [tb_true hp]
      go_wp2
      go_ret
      exact ⟨ret_bool (by rw [HT.out]; simp; omega), (Below.refl _ _).alloc (Nat.le_refl _) _⟩
  · have HT := hide (tb_false (p := (LogRecord.mk p d).ok) (fun h => hp ⟨h.1, h.2.1⟩))
    go_enter Tryz.func105, Tryz.ntmps105
    go_wp2_with fail
    refine (l6In_any _ _ _ _).mono ?_
    rintro e w' ⟨rfl, rfl⟩
    rw [tb_false hp]
    go_wp2
    go_ret
    exact ⟨ret_bool HT.out.symm, (Below.refl _ _).alloc (Nat.le_refl _) _⟩

set_option maxRecDepth 100000 in
set_option maxHeartbeats 400000 in
theorem specLogFrame_any (p : Int) (d : ByteArray) (w : World) (hs : d.size ≤ maxLen) :
    Calls Tryz.prog 58 #[.agg #[.int .i64 p, .string d]] w fun e w' => e = .returned (.string (LogRecord.mk p d).frame) ∧ Below w.heap.size w w' := by
  have hw0 : Below w.heap.size w (w.alloc (.cells #[.int .i64 p, .string d] 63)) := (Below.refl _ _).alloc (Nat.le_refl _) _
  have R0 : Row (w.alloc (.cells #[.int .i64 p, .string d] 63)) w.heap.size 63 [.int .i64 p, .string d] := Row.new w _ _
  have hcv := fun (u : World) => run_conv5 (P := Tryz.prog) 59 9 5 Tryz.underlying59 Tryz.underlying5 Tryz.underlying9 u
  have hsz := size5
  go_enter Tryz.func58, Tryz.ntmps58
  go_wp2_with fail
  refine (specRecordOk_any _ _ _ hs).mono ?_
  rintro e w1 ⟨rfl, hb1⟩
  have hB1 := hw0.trans (hb1.mono hw0.size)
  have R1 := R0.below hb1 R0.lt
  have c0 := R1.cell 0
  have c1 := R1.cell 1
  have z1 : w.heap.size < w1.heap.size := R1.lt
  by_cases h : (LogRecord.mk p d).ok
  · rw [tb_true h]
    have HT := hide (show (LogRecord.mk p d).frame = (LogRecord.mk p d).bytes by unfold LogRecord.frame; rw [tb_true h, if_pos rfl])
    obtain ⟨h1, h2, h3⟩ := h
    change 1 ≤ p at h1
    change p ≤ 999999 at h2
    change d.size ≤ 2000 at h3
    clear hs
    go_wp2
    go_ret
    exact ⟨ret_str HT.out.symm, hB1.alloc hB1.size _⟩
  · rw [tb_false h]
    have HT := hide (show (LogRecord.mk p d).frame = .empty by unfold LogRecord.frame; rw [tb_false h]; rfl)
    go_wp2
    go_ret
    exact ⟨ret_str HT.out.symm, hB1⟩
end Go.Proofs.YtddjgbhkfdpffaaGreatDoor
set_option linter.unusedVariables false
set_option linter.unusedSimpArgs false
namespace Go.Proofs.YtddjgbhkfdpffaaGreatDoor
open Go.ChangeShapes Go.WideShapes Go.ChangeAt Go.RowKit Go.Deep

theorem cellsOf_L_DiskFile : Tryz.prog.cellsOf 111 = 3 := by kernel_rfl
theorem cellsOf_LS_DiskFile : Tryz.prog.cellsOf 22 = 1 := by kernel_rfl
instance : Inhabited DiskFile := ⟨.mk .empty .empty 0⟩
section
variable {H : Type} {enc : TypeId × Value → H} {w : World} {base : Nat} {spare : Nat → Bool} {held : Bool}
set_option maxRecDepth 100000 in
theorem DiskFile_read : ∀ (fuel : Nat) {cs : List Value} {x : DataW H × List MemPlace}, DataW.trod enc Tryz.prog w base spare held fuel 111 cs = some x → ∃ (x : DiskFile) (fp : List Nat), OwC w x.cells cs fp ∧ Lt fp w.heap.size := by
  intro fuel
  induction fuel using Nat.strongRecOn with
  | _ fuel ih =>
    intro cs x h
    obtain ⟨hl, n, hn, hf⟩ := field_read Tryz.underlying111 h
    rw [cellsOf_L_DiskFile] at hl
    match cs, hl with
    | [c0, c1, c2], _ =>
      obtain ⟨y0, h0⟩ := hf 0 9 0 rfl
      rw [cellsOf_string] at h0
      obtain ⟨x0, e0, _, w0⟩ := DataW.trod_string Tryz.underlying9 h0
      obtain ⟨y1, h1⟩ := hf 1 9 1 rfl
      rw [cellsOf_string] at h1
      obtain ⟨x1, e1, _, w1⟩ := DataW.trod_string Tryz.underlying9 h1
      obtain ⟨y2, h2⟩ := hf 2 3 2 rfl
      rw [cellsOf_int] at h2
      obtain ⟨x2, e2, _, w2⟩ := DataW.trod_int Tryz.underlying3 h2
      simp only [List.drop_zero, List.drop_succ_cons, List.take_succ_cons, List.take_zero, List.cons.injEq, and_true] at e0 e1 e2
      subst e0
      subst e1
      subst e2
      refine ⟨.mk x0 x1 x2, [], ?_, Lt.nil _⟩
      have hm := OwC.mDiskFile (w := w) (x := .mk x0 x1 x2) w0 w1 w2
      first | exact hm | simpa using hm | simpa [List.append_assoc] using hm
end
end Go.Proofs.YtddjgbhkfdpffaaGreatDoor
set_option linter.unusedVariables false
set_option linter.unusedSimpArgs false
namespace Go.Proofs.YtddjgbhkfdpffaaGreatDoor
open Go.ChangeShapes Go.WideShapes Go.ChangeAt Go.RowKit Go.Deep

theorem cellsOf_L_DiskMove : Tryz.prog.cellsOf 114 = 2 := by kernel_rfl
theorem cellsOf_LS_DiskMove : Tryz.prog.cellsOf 24 = 1 := by kernel_rfl
instance : Inhabited DiskMove := ⟨.mk false .empty⟩
section
variable {H : Type} {enc : TypeId × Value → H} {w : World} {base : Nat} {spare : Nat → Bool} {held : Bool}
set_option maxRecDepth 100000 in
theorem DiskMove_read : ∀ (fuel : Nat) {cs : List Value} {x : DataW H × List MemPlace}, DataW.trod enc Tryz.prog w base spare held fuel 114 cs = some x → ∃ (x : DiskMove) (fp : List Nat), OwC w x.cells cs fp ∧ Lt fp w.heap.size := by
  intro fuel
  induction fuel using Nat.strongRecOn with
  | _ fuel ih =>
    intro cs x h
    obtain ⟨hl, n, hn, hf⟩ := field_read Tryz.underlying114 h
    rw [cellsOf_L_DiskMove] at hl
    match cs, hl with
    | [c0, c1], _ =>
      obtain ⟨y0, h0⟩ := hf 0 4 0 rfl
      rw [cellsOf_bool] at h0
      obtain ⟨x0, e0, _⟩ := DataW.trod_bool Tryz.underlying4 h0
      obtain ⟨y1, h1⟩ := hf 1 9 1 rfl
      rw [cellsOf_string] at h1
      obtain ⟨x1, e1, _, w1⟩ := DataW.trod_string Tryz.underlying9 h1
      simp only [List.drop_zero, List.drop_succ_cons, List.take_succ_cons, List.take_zero, List.cons.injEq, and_true] at e0 e1
      subst e0
      subst e1
      refine ⟨.mk x0 x1, [], ?_, Lt.nil _⟩
      have hm := OwC.mDiskMove (w := w) (x := .mk x0 x1) w1
      first | exact hm | simpa using hm | simpa [List.append_assoc] using hm
end
end Go.Proofs.YtddjgbhkfdpffaaGreatDoor
set_option linter.unusedVariables false
set_option linter.unusedSimpArgs false
namespace Go.Proofs.YtddjgbhkfdpffaaGreatDoor
open Go.ChangeShapes Go.WideShapes Go.ChangeAt Go.RowKit Go.Deep

theorem cellsOf_L_Disk : Tryz.prog.cellsOf 26 = 3 := by kernel_rfl
instance : Inhabited Disk := ⟨.mk [] [] []⟩
section
variable {H : Type} {enc : TypeId × Value → H} {w : World} {base : Nat} {spare : Nat → Bool} {held : Bool}
set_option maxRecDepth 100000 in
theorem Disk_read : ∀ (fuel : Nat) {cs : List Value} {x : DataW H × List MemPlace}, DataW.trod enc Tryz.prog w base spare held fuel 26 cs = some x → ∃ (x : Disk) (fp : List Nat), OwC w x.cells cs fp ∧ Lt fp w.heap.size := by
  intro fuel
  induction fuel using Nat.strongRecOn with
  | _ fuel ih =>
    intro cs x h
    obtain ⟨hl, n, hn, hf⟩ := field_read Tryz.underlying26 h
    rw [cellsOf_L_Disk] at hl
    match cs, hl with
    | [c0, c1, c2], _ =>
      obtain ⟨y0, h0⟩ := hf 0 22 0 rfl
      rw [cellsOf_LS_DiskFile] at h0
      obtain ⟨x0, v0, f0, e0, o0, l0⟩ := slice_read DiskFile.cells 3 DiskFile.cells_len (by omega) Tryz.underlying22 cellsOf_L_DiskFile (fun m hm cs x hx => DiskFile_read m hx) h0
      obtain ⟨y1, h1⟩ := hf 1 23 1 rfl
      rw [cellsOf_strings] at h1
      obtain ⟨x1, v1, f1, e1, o1, l1⟩ := strs_read h1
      obtain ⟨y2, h2⟩ := hf 2 24 2 rfl
      rw [cellsOf_LS_DiskMove] at h2
      obtain ⟨x2, v2, f2, e2, o2, l2⟩ := slice_read DiskMove.cells 2 DiskMove.cells_len (by omega) Tryz.underlying24 cellsOf_L_DiskMove (fun m hm cs x hx => DiskMove_read m hx) h2
      simp only [List.drop_zero, List.drop_succ_cons, List.take_succ_cons, List.take_zero, List.cons.injEq, and_true] at e0 e1 e2
      subst e0
      subst e1
      subst e2
      refine ⟨.mk x0 x1 x2, f0 ++ (f1 ++ (f2)), ?_, (l0).app ((l1).app (l2))⟩
      have hm := OwC.mDisk (w := w) (x := .mk x0 x1 x2) o0 o1 o2
      first | exact hm | simpa using hm | simpa [List.append_assoc] using hm
end
end Go.Proofs.YtddjgbhkfdpffaaGreatDoor
