/-
  The numbers of files' names, and the names of segments and plans: the program. Written by hand.
-/
import Derived.Test.YtddjgbhkfdpffaaGreatDoorWOpenN
import Derived.Test.YtddjgbhkfdpffaaGreatDoorWReadNum
set_option linter.unusedVariables false
set_option linter.unusedSimpArgs false
namespace Go.Proofs.YtddjgbhkfdpffaaGreatDoor
open Go.ChangeShapes Go.WideShapes Go.ChangeAt Go.RowKit

set_option maxRecDepth 100000 in
theorem segmentName_any (n : Int) (h0 : 0 ≤ n) (h1 : n ≤ 9999999) (w : World) (hl : Lay w) :
    Calls Tryz.prog 93 #[.int .i64 n] w fun e w' => e = .returned (.string (segName n)) ∧ Below w.heap.size w w' := by
  have hd := dec_size n (by omega) (by omega)
  have HC := hide (itoa_any n (by omega) (by omega) w hl.tab)
  go_enter Tryz.func93, Tryz.ntmps93
  go_wp2_with fail
  refine HC.out.mono ?_
  rintro e w2 ⟨rfl, hb2⟩
  have HB2 := hide hb2
  go_wp2
  go_ret
  exact ⟨rfl, HB2.out⟩
set_option maxRecDepth 100000 in
theorem planName_any (n : Int) (h0 : 0 ≤ n) (h1 : n ≤ 9999999) (w : World) (hl : Lay w) :
    Calls Tryz.prog 138 #[.int .i64 n] w fun e w' => e = .returned (.string (planFile n)) ∧ Below w.heap.size w w' := by
  have hd := dec_size n (by omega) (by omega)
  have HC := hide (itoa_any n (by omega) (by omega) w hl.tab)
  go_enter Tryz.func138, Tryz.ntmps138
  go_wp2_with fail
  refine HC.out.mono ?_
  rintro e w2 ⟨rfl, hb2⟩
  have HB2 := hide hb2
  go_wp2
  go_ret
  exact ⟨rfl, HB2.out⟩
set_option maxRecDepth 100000 in
set_option maxHeartbeats 1000000 in
theorem numberOf_any (s : ByteArray) (c : Nat) (w : World) (hs : s.size ≤ 1048576) (hl : Lay w) :
    Calls Tryz.prog 128 #[.string s, .int .u8 (c : Int)] w fun e w' => e = .returned (.int .i64 (fileNum s c : Int)) ∧ Below w.heap.size w w' := by
  by_cases h0 : s.size = 0
  · have hF : fileNum s c = 0 := fileNum_other (fun ⟨h, _⟩ => by omega)
    obtain rfl : s = ⟨#[]⟩ := bytes_inj (List.eq_nil_of_length_eq_zero (by rw [← size_bytes]; exact h0))
    rw [hF]
    clear hF h0
    go_enter Tryz.func128, Tryz.ntmps128
    go_wp2
    go_ret
    exact ⟨rfl, Below.refl _ _⟩
  have h0 : 0 < s.size := by omega
  obtain ⟨e1, e2⟩ := neL (a := s) (b := ⟨#[]⟩) (fun h => by rw [h] at h0; exact absurd h0 (by decide))
  have e3 : ¬ (s.toList = []) := fun e => e1 (e.trans (by simp))
  have e4 : (s.toList == []) = false := by simpa using e3
  by_cases hc : s[0].toNat = c
  rotate_left
  · have hF : fileNum s c = 0 := fileNum_other (fun ⟨_, h⟩ => hc h)
    have hci : ¬ ((s[0].toNat : Int) = (c : Int)) := fun h => hc (by omega)
    rw [hF]
    clear hF hc
    go_enter Tryz.func128, Tryz.ntmps128
    go_wp2
    go_ret
    exact ⟨rfl, Below.refl _ _⟩
  have HF := hide (fileNum_head h0 hc)
  have HNA := hide (show numAt (s.extract 1 s.size) = _ from rfl)
  unfold numAt at HNA
  have HC := hide (readNum_any (s.extract 1 s.size) w (by rw [ByteArray.size_extract]; omega) hl)
  subst hc
  generalize fileNum s s[0].toNat = F at *
  have h1i : (1 : Int) ≤ (s.size : Int) := by omega
  go_enter Tryz.func128, Tryz.ntmps128
  go_wp2_with fail
  refine HC.out.mono ?_
  rintro e w2 ⟨⟨n, rfl, ⟨hn0, hn1⟩, hnz⟩, hb2⟩
  have HB2 := hide hb2
  clear HC hb2 HNA
  cases hz : numOf (s.extract 1 s.size) with
  | none =>
    have hF : F = 0 := by rw [HF.out]; unfold numAt; rw [hz]
    subst hF
    clear HF hnz hz
    simp only [Option.isSome_none]
    go_wp2
    go_ret
    exact ⟨rfl, HB2.out⟩
  | some z =>
    obtain rfl := hnz z hz
    have hF : F = if 1 ≤ n ∧ n ≤ 999999 then n.toNat else 0 := by rw [HF.out]; unfold numAt; rw [hz]
    clear HF hnz hz
    simp only [Option.isSome_some]
    by_cases hr : 1 ≤ n ∧ n ≤ 999999
    · rw [if_pos hr] at hF
      obtain ⟨k, rfl⟩ : ∃ k : Nat, n = (k : Int) := ⟨n.toNat, by omega⟩
      obtain rfl : F = k := by rw [hF]; omega
      clear hF
      have HT := hide (tb_true hr)
      go_wp2_with fail
      refine (inRange_any _ _ _ _).mono ?_
      rintro e w3 ⟨rfl, rfl⟩
      rw [HT.out]
      go_wp2
      go_ret
      exact ⟨rfl, HB2.out⟩
    · rw [if_neg hr] at hF
      subst hF
      have HT := hide (tb_false hr)
      clear hr
      go_wp2_with fail
      refine (inRange_any _ _ _ _).mono ?_
      rintro e w3 ⟨rfl, rfl⟩
      rw [HT.out]
      go_wp2
      go_ret
      exact ⟨rfl, HB2.out⟩
end Go.Proofs.YtddjgbhkfdpffaaGreatDoor
