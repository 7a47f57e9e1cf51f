/-
  FnExactLogFrames returns true for every input: the program answers as the reference, in memory of its own. No condition.
-/
import Derived.Test.YtfllacpmbcamkaaFramesI
import Derived.Test.YtfllacpmbcamkaaMLogRecord
set_option linter.unusedVariables false
set_option linter.unusedSimpArgs false
namespace Go.Proofs.Ytfllacpmbcamkaa
open Go.ChangeShapes Go.WideShapes Go.ChangeAt Go.RowKit

theorem frFrom_len (d : ByteArray) : ∀ (m i : Nat), d.size - i ≤ m → i ≤ d.size → 5 * (frFrom d i).1.length + i ≤ d.size
  | 0, i, hm, hi => by
    rw [frFrom_no (fun h => by have := h.1; omega)]
    simp; omega
  | m + 1, i, hm, hi => by
    by_cases h : frOk d i
    · have ih := frFrom_len d m (i + 5 + frN d i) (by have := h.1; omega) h.2.2.2.2
      rw [frFrom_yes h]
      simp only [List.length_cons]
      omega
    · rw [frFrom_no h]
      simp; omega
theorem LogRecord.cntS_len : ∀ (l : List LogRecord), LogRecord.cntS l = 2 * l.length
  | [] => rfl
  | x :: r => by simp only [LogRecord.cntS, LogRecord.cnt_eq, List.length_cons, LogRecord.cntS_len r]; omega

set_option maxRecDepth 100000 in
set_option maxHeartbeats 1000000 in
theorem lawFnExactLogFrames_any (w : World) (x0 : ByteArray) (w0 : x0.size ≤ maxLen) :
    Calls Try.prog 9 #[.string x0] w fun e w' => e = .returned (.bool true) ∧ Below w.heap.size w w' := by
  unfold maxLen at w0
  by_cases hs : x0.size ≤ 1048576
  · have hlen := frFrom_len x0 _ 0 (Nat.le_refl _) (by omega)
    have hcnt := hide (LogRecord.cntS_len (frFrom x0 0).1)
    obtain ⟨L, hL⟩ : ∃ L, (frFrom x0 0).1 = L := ⟨_, rfl⟩
    obtain ⟨z, hz⟩ : ∃ z, (frFrom x0 0).2 = z := ⟨_, rfl⟩
    rw [hL] at hlen hcnt
    have hLl : L.length ≤ 1048576 := by omega
    have hc : LogRecord.cntS L ≤ 2097152 := by have := hcnt.out; omega
    go_enter Try.func9, Try.ntmps9
    go_wp2_with fail
    refine (specLogFrames_any x0 _ hs).mono ?_
    rintro e u1 ⟨v0, f0, rfl, o0, n0, hb1⟩
    rw [hL] at o0
    rw [hz]
    obtain ⟨A0, c0, rfl, _, _⟩ := o0.slice
    have O0 := hide o0
    have N0 := hide n0
    have B1 := hide hb1
    clear o0 n0 hb1
    go_wp2_with fail
    refine (implLogFrames_any x0 _ hs).mono ?_
    rintro e u2 ⟨v1, f1, rfl, o1, n1, hb2⟩
    rw [hL] at o1
    rw [hz]
    obtain ⟨A1, c1, rfl, _, _⟩ := o1.slice
    have O0 := hide (O0.out.below hb2 N0.out.lt)
    have hf0 := hide (N0.out.lt)
    have hd := hide (show ∀ g ∈ f0, g ∉ f1 from fun g hg h => by have := N0.out.lt g hg; have := (n1.fr g h).1; omega)
    have N0 := hide (N0.out.below hb2 N0.out.lt)
    have O1 := hide o1
    have hge := hide (show ∀ g ∈ f1, w.heap.size ≤ g from fun g hg => Nat.le_trans B1.out.size (n1.fr g hg).1)
    have N1 := hide n1
    have B2 := hide (B1.out.trans (hb2.mono B1.out.size))
    clear o1 n1 hb2
    go_wp2_with fail
    refine (eqLogRecordS_any L _ _ _ _ _ _ _ _ _ O1.out O0.out N1.out.lt N0.out.lt).mono ?_
    rintro e u3 ⟨rfl, hb3⟩
    have O0 := hide (O0.out.below hb3 N0.out.lt)
    have O1 := hide (O1.out.below hb3 N1.out.lt)
    have N0 := hide (N0.out.below hb3 N0.out.lt)
    have N1 := hide (N1.out.below hb3 N1.out.lt)
    have B3 := hide (B2.out.trans (hb3.mono B2.out.size))
    clear hb3
    go_wp2_with fail
    refine (markLogRecordS_any L _ _ _ f1 _ _ 1 _ rfl O1.out N1.out (by omega)).mono ?_
    rintro e u4 ⟨L', rfl, hl', o1, hmk, ht⟩
    have O1 := hide o1
    have M := hide hmk
    have O0 := hide (O0.out.touch ht N0.out.lt hd.out)
    have N0 := hide (ht.new N0.out)
    have N1 := hide (ht.new N1.out)
    have B4 := hide (B3.out.trans (ht.to_below B3.out.size hge.out))
    clear o1 hmk ht hl'
    go_wp2_with fail
    refine (heldLogRecordS_any L' _ _ _ f1 _ 1 (1 + LogRecord.cntS L) _ rfl O1.out N1.out.lt M.out (by omega)).mono ?_
    rintro e u5 ⟨rfl, hb5⟩
    have O0 := hide (O0.out.below hb5 N0.out.lt)
    have O1 := hide (O1.out.below hb5 N1.out.lt)
    have N0 := hide (N0.out.below hb5 N0.out.lt)
    have N1 := hide (N1.out.below hb5 N1.out.lt)
    have B5 := hide (B4.out.trans (hb5.mono B4.out.size))
    clear hb5
    go_wp2_with fail
    refine (implLogFrames_any x0 _ hs).mono ?_
    rintro e u6 ⟨v2, f2, rfl, o2, n2, hb6⟩
    rw [hL] at o2
    rw [hz]
    obtain ⟨A2, c2, rfl, _, _⟩ := o2.slice
    have O0 := hide (O0.out.below hb6 N0.out.lt)
    have O1 := hide (O1.out.below hb6 N1.out.lt)
    have N0 := hide (N0.out.below hb6 N0.out.lt)
    have N1 := hide (N1.out.below hb6 N1.out.lt)
    have O2 := hide o2
    have N2 := hide n2
    have B6 := hide (B5.out.trans (hb6.mono B5.out.size))
    clear o2 n2 hb6
    go_wp2_with fail
    refine (eqLogRecordS_any L _ _ _ _ _ _ _ _ _ O2.out O0.out N2.out.lt N0.out.lt).mono ?_
    rintro e u7 ⟨rfl, hb7⟩
    have O1 := hide (O1.out.below hb7 N1.out.lt)
    have N1 := hide (N1.out.below hb7 N1.out.lt)
    have B7 := hide (B6.out.trans (hb7.mono B6.out.size))
    clear hb7
    go_wp2_with fail
    refine (heldLogRecordS_any L' _ _ _ f1 _ 1 (1 + LogRecord.cntS L) _ rfl O1.out N1.out.lt M.out (by omega)).mono ?_
    rintro e u8 ⟨rfl, hb8⟩
    have B8 := hide (B7.out.trans (hb8.mono B7.out.size))
    clear hb8
    go_wp2
    go_ret
    exact ⟨rfl, B8.out⟩
  · have hz' : (1048576 : Int) < x0.size := by omega
    go_enter Try.func9, Try.ntmps9
    go_wp2
    go_ret
    exact ⟨rfl, Below.refl _ _⟩
end Go.Proofs.Ytfllacpmbcamkaa
