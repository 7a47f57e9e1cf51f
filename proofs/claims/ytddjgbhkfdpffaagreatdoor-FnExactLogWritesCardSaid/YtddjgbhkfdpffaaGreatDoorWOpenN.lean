/-
  The numbers of files' names: the reference. Written by hand.
-/
import Derived.Deep.RegionHeld3
import Derived.BigQuiet
import Derived.Test.YtddjgbhkfdpffaaGreatDoorWHLogState
import Derived.Test.YtddjgbhkfdpffaaGreatDoorWOpenM
import Derived.Test.YtddjgbhkfdpffaaGreatDoorWPlRR
import Derived.Test.YtddjgbhkfdpffaaGreatDoorWDecS
set_option linter.unusedVariables false
set_option linter.unusedSimpArgs false
namespace Go.Proofs.YtddjgbhkfdpffaaGreatDoor
open Go.ChangeShapes Go.WideShapes Go.ChangeAt Go.RowKit

theorem rest_bytes (s : ByteArray) : (s.extract 1 s.size).data.toList = s.data.toList.drop 1 := by
  rw [Lib.extract_data, List.take_of_length_le]
  rw [List.length_drop, ← size_bytes]
  omega
theorem rest_len (s : ByteArray) (h : 1 ≤ s.size) : ((s.extract 1 s.size).data.toList.length : Int) + 1 = s.size := by
  rw [rest_bytes, List.length_drop, ← size_bytes]
  omega
theorem fileNum_head {s : ByteArray} {c : Nat} (h0 : 0 < s.size) (h : s[0].toNat = c) : fileNum s c = numAt (s.extract 1 s.size) := by
  unfold fileNum
  rw [if_pos ⟨h0, by rw [bAt_eq h0]; exact h⟩]
theorem fileNum_other {s : ByteArray} {c : Nat} (h : ¬ ∃ h0 : 0 < s.size, s[0].toNat = c) : fileNum s c = 0 := by
  unfold fileNum
  rw [if_neg]
  rintro ⟨h0, h1⟩
  exact h ⟨h0, by rw [bAt_eq h0] at h1; exact h1⟩
theorem numAt_empty {r : ByteArray} (h : r.size = 0) : numAt r = 0 := by
  apply numAt_no
  rintro ⟨_, h2, _⟩
  have h3 : (dec (numK 7 0 r.data.toList).1).size = 0 := by rw [h2]; exact h
  have h4 : 0 < (dec (numK 7 0 r.data.toList).1).size := by
    rw [size_bytes, dec_bytes]
    have hn := (num7_bd r.data.toList).1
    unfold Lib.itoa
    rw [if_neg (by omega)]
    obtain ⟨d, q, _, e⟩ := digits_first _ _ (Nat.le_refl (numK 7 0 r.data.toList).1.toNat)
    rw [e]
    simp
  omega
set_option maxRecDepth 100000 in
set_option maxHeartbeats 1000000 in
theorem l43Num_any (s : ByteArray) (c : Nat) (w : World) (hs : s.size ≤ 1048576) :
    Calls Tryz.prog 79 #[.string s, .int .u8 (c : Int)] w fun e w' => e = .returned (.int .i64 (fileNum s c : Int)) ∧ Below w.heap.size w w' := by
  by_cases h2 : s.size < 2
  · have hi : (s.size : Int) < 2 := by omega
    have hF : fileNum s c = 0 := by
      by_cases h : ∃ h0 : 0 < s.size, s[0].toNat = c
      · obtain ⟨h0, h1⟩ := h
        rw [fileNum_head h0 h1]
        exact numAt_empty (by rw [ByteArray.size_extract]; omega)
      · exact fileNum_other h
    rw [hF]
    clear hF
    go_enter Tryz.func79, Tryz.ntmps79
    go_wp2
    go_ret
    exact ⟨rfl, Below.refl _ _⟩
  have hi : ¬ ((s.size : Int) < 2) := by omega
  have h0 : 0 < s.size := by omega
  by_cases hc : s[0].toNat = c
  rotate_left
  · have hF : fileNum s c = 0 := fileNum_other (fun ⟨_, h⟩ => hc h)
    have hci : ¬ ((s[0].toNat : Int) = (c : Int)) := fun h => hc (by omega)
    rw [hF]
    clear hF hc
    go_enter Tryz.func79, Tryz.ntmps79
    go_wp2
    go_ret
    exact ⟨rfl, Below.refl _ _⟩
  have hK := num7_bd (s.data.toList.drop 1)
  have hKn := numK_le 7 0 (s.data.toList.drop 1)
  have HC := hide (l42Num_any s 1 w hs (by omega))
  have HF := hide (fileNum_head h0 hc)
  have HNo := hide (numAt_no (r := s.extract 1 s.size))
  have HY := hide (fun (z : Int) (h1 : z ≤ 999999) (h2 : 0 ≤ z) (h3 : dec z = s.extract 1 s.size) => numAt_yes h1 h2 h3)
  have hrl := rest_len s (by omega)
  have hrb := rest_bytes s
  rw [hrb] at hrl HNo
  have HRL := hide hrl
  subst hc
  obtain ⟨n, hn⟩ : ∃ n : Nat, (numK 7 0 (s.data.toList.drop 1)).1 = (n : Int) := ⟨(numK 7 0 (s.data.toList.drop 1)).1.toNat, by omega⟩
  obtain ⟨m, hm⟩ : ∃ m : Nat, (numK 7 0 (s.data.toList.drop 1)).2 = m := ⟨_, rfl⟩
  rw [hn, hm] at HC HNo
  rw [hn] at hK
  rw [hm] at hKn
  clear hn hm hrb hrl
  generalize (s.data.toList.drop 1).length = k at *
  generalize fileNum s s[0].toNat = F at *
  have h1i : (1 : Int) ≤ (s.size : Int) := by omega
  go_enter Tryz.func79, Tryz.ntmps79
  go_wp2_with fail
  refine HC.out.mono ?_
  rintro e w2 ⟨rfl, rfl⟩
  by_cases hmk : m = k
  rotate_left
  · have hai : ¬ ((1 : Int) + (m : Int) = (s.size : Int)) := by have := HRL.out; omega
    have hF : F = 0 := by rw [HF.out]; exact HNo.out (fun h => hmk h.1)
    subst hF
    clear HF HNo HY HRL hmk
    go_wp2_with fail
    go_quiet (fail)
    go_wp2
    go_ret
    exact ⟨rfl, below_drewN (Below.refl _ _) _⟩
  subst hmk
  have hai : (1 : Int) + (m : Int) = (s.size : Int) := by have := HRL.out; omega
  have HD := hide (fun W => specDecN_any n W (by omega))
  by_cases hd : dec (n : Int) = s.extract 1 s.size
  · obtain ⟨e1, e2⟩ := eqL hd
    have hF : n ≤ 999999 → F = n := fun h => by rw [HF.out, HY.out n (by omega) (by omega) hd]; omega
    have hG : ¬ n ≤ 999999 → F = 0 := fun h => by rw [HF.out]; exact HNo.out (fun h3 => h (by omega))
    by_cases h9 : n ≤ 999999
    · have h9i : ¬ ((999999 : Int) < (n : Int)) := by omega
      obtain rfl := hF h9
      clear HF HNo HY HRL hF hG hd
      go_wp2_with fail
      go_region_held3 (fun w' => w'.os = w.os) (first | exact hbz.os | rfl | go_keep) (first | (go_at_call 34; refine (HD.out _).mono ?_; rintro e w3 ⟨rfl, hb3⟩; have hbz : Below w.heap.size w w3 := (below_drewN (Below.refl _ w) _).trans hb3))
      all_goals
        go_wp2
        go_ret
        exact ⟨rfl, hbz⟩
    · have h9i : (999999 : Int) < (n : Int) := by omega
      obtain rfl := hG h9
      clear HF HNo HY HRL hF hG hd
      go_wp2_with fail
      go_region_held3 (fun w' => w'.os = w.os) (first | exact hbz.os | rfl | go_keep) (first | (go_at_call 34; refine (HD.out _).mono ?_; rintro e w3 ⟨rfl, hb3⟩; have hbz : Below w.heap.size w w3 := (below_drewN (Below.refl _ w) _).trans hb3))
      all_goals
        go_wp2
        go_ret
        exact ⟨rfl, hbz⟩
  · obtain ⟨e1, e2⟩ := neL hd
    have hF : F = 0 := by rw [HF.out]; exact HNo.out (fun h => hd h.2.1)
    subst hF
    clear HF HNo HY HRL hd
    go_wp2_with fail
    refine wp_region_held_drew (S := fun W => Below w.heap.size w W) (by kernel_rfl) (below_drewN (Below.refl _ _) 1) (fun hS0 => ?_)
    refine wpAnyH_take (i := 0) (v := .int .i64 ((1 : Int) + (m : Int))) rfl (by kernel_rfl) (by kernel_rfl) (by kernel_rfl) (fun _ _ _ h => h) (Or.inl ⟨by kernel_rfl, by (intro W hS; go_simp; first | done | with_reducible rfl | rfl)⟩) hS0 ?_
    (try simp only [Act.put, List.getElem_toArray, List.getElem_cons_zero, List.getElem_cons_succ, List.setIfInBounds_toArray, List.set_cons_zero, List.set_cons_succ])
    refine wpAnyH_take (i := 1) (v := .string s) rfl (by kernel_rfl) (by kernel_rfl) (by kernel_rfl) (fun _ _ _ h => h) (Or.inl ⟨by kernel_rfl, by (intro W hS; go_simp; first | done | with_reducible rfl | rfl)⟩) hS0 ?_
    (try simp only [Act.put, List.getElem_toArray, List.getElem_cons_zero, List.getElem_cons_succ, List.setIfInBounds_toArray, List.set_cons_zero, List.set_cons_succ])
    refine wpAnyH_take (i := 2) (v := .int .i64 (s.size : Int)) rfl (by kernel_rfl) (by kernel_rfl) (by kernel_rfl) (fun _ _ _ h => h) (Or.inl ⟨by kernel_rfl, by (intro W hS; go_simp; first | done | with_reducible rfl | rfl)⟩) hS0 ?_
    (try simp only [Act.put, List.getElem_toArray, List.getElem_cons_zero, List.getElem_cons_succ, List.setIfInBounds_toArray, List.set_cons_zero, List.set_cons_succ])
    refine wpAnyH_take (i := 3) (v := .bool false) rfl (by kernel_rfl) (by kernel_rfl) (by kernel_rfl) (fun _ _ _ h => h) (Or.inl ⟨by kernel_rfl, by (intro W hS; go_simp; first | done | with_reducible rfl | rfl)⟩) hS0 ?_
    (try simp only [Act.put, List.getElem_toArray, List.getElem_cons_zero, List.getElem_cons_succ, List.setIfInBounds_toArray, List.set_cons_zero, List.set_cons_succ])
    refine wpAnyH_take (i := 4) (v := .bool false) rfl (by kernel_rfl) (by kernel_rfl) (by kernel_rfl) (fun _ _ _ h => h) (Or.inl ⟨by kernel_rfl, by (intro W hS; go_simp; first | done | with_reducible rfl | rfl)⟩) hS0 ?_
    (try simp only [Act.put, List.getElem_toArray, List.getElem_cons_zero, List.getElem_cons_succ, List.setIfInBounds_toArray, List.set_cons_zero, List.set_cons_succ])
    refine wpAnyH_take (i := 5) (v := .int .i64 (n : Int)) rfl (by kernel_rfl) (by kernel_rfl) (by kernel_rfl) (fun _ _ _ h => h) (Or.inl ⟨by kernel_rfl, by (intro W hS; go_simp; first | done | with_reducible rfl | rfl)⟩) hS0 ?_
    (try simp only [Act.put, List.getElem_toArray, List.getElem_cons_zero, List.getElem_cons_succ, List.setIfInBounds_toArray, List.set_cons_zero, List.set_cons_succ])
    refine wpAnyH_take (i := 7) (v := .string s) rfl (by kernel_rfl) (by kernel_rfl) (by kernel_rfl) (fun _ _ _ h => h) (Or.inl ⟨by kernel_rfl, by (intro W hS; go_simp; first | done | with_reducible rfl | rfl)⟩) hS0 ?_
    (try simp only [Act.put, List.getElem_toArray, List.getElem_cons_zero, List.getElem_cons_succ, List.setIfInBounds_toArray, List.set_cons_zero, List.set_cons_succ])
    refine wpAnyH_take (i := 8) (v := .string (s.extract 1 s.size)) rfl (by kernel_rfl) (by kernel_rfl) (by kernel_rfl) (fun _ _ _ h => h) (Or.inl ⟨by kernel_rfl, by (intro W hS; go_simp; first | done | with_reducible rfl | rfl)⟩) hS0 ?_
    (try simp only [Act.put, List.getElem_toArray, List.getElem_cons_zero, List.getElem_cons_succ, List.setIfInBounds_toArray, List.set_cons_zero, List.set_cons_succ])
    refine wpAnyH_ready (rs := [6]) (by kernel_rfl) (by simp) ?_
    refine AllReadyH.cons rfl (fun K hK => ?_) AllReadyH.nil
    go_simp
    go_at_call 34
    refine (HD.out _).mono ?_
    rintro e w3 ⟨rfl, hb3⟩
    have hS1 := hS0.trans (hb3.mono hS0.size)
    try go_simp
    refine hK.out _ _ hS1 (fun hHeld => ?_)
    clear hK K
    refine wpAnyH_take (i := 9) (v := .bool true) rfl (by kernel_rfl) (by kernel_rfl) (by kernel_rfl) (fun _ _ _ h => h) (Or.inl ⟨by kernel_rfl, by (intro W hS; go_simp; first | done | with_reducible rfl | rfl)⟩) hS1 ?_
    (try simp only [Act.put, List.getElem_toArray, List.getElem_cons_zero, List.getElem_cons_succ, List.setIfInBounds_toArray, List.set_cons_zero, List.set_cons_succ])
    refine wpAnyH_take (i := 10) (v := .bool true) rfl (by kernel_rfl) (by kernel_rfl) (by kernel_rfl) (fun _ _ _ h => h) (Or.inl ⟨by kernel_rfl, by (intro W hS; go_simp; first | done | with_reducible rfl | rfl)⟩) hS1 ?_
    (try simp only [Act.put, List.getElem_toArray, List.getElem_cons_zero, List.getElem_cons_succ, List.setIfInBounds_toArray, List.set_cons_zero, List.set_cons_succ])
    refine wpAnyH_take (i := 11) (v := .bool true) rfl (by kernel_rfl) (by kernel_rfl) (by kernel_rfl) (fun _ _ _ h => h) (Or.inl ⟨by kernel_rfl, by (intro W hS; go_simp; first | done | with_reducible rfl | rfl)⟩) hS1 ?_
    (try simp only [Act.put, List.getElem_toArray, List.getElem_cons_zero, List.getElem_cons_succ, List.setIfInBounds_toArray, List.set_cons_zero, List.set_cons_succ])
    refine wpAnyH_take (i := 12) (v := undef) rfl (by kernel_rfl) (by kernel_rfl) (by kernel_rfl) (fun _ _ _ h => h) (Or.inr ⟨by kernel_rfl, rfl⟩) hS1 ?_
    (try simp only [Act.put, List.getElem_toArray, List.getElem_cons_zero, List.getElem_cons_succ, List.setIfInBounds_toArray, List.set_cons_zero, List.set_cons_succ])
    refine wpAnyH_take (i := 13) (v := undef) rfl (by kernel_rfl) (by kernel_rfl) (by kernel_rfl) (fun _ _ _ h => h) (Or.inr ⟨by kernel_rfl, rfl⟩) hS1 ?_
    (try simp only [Act.put, List.getElem_toArray, List.getElem_cons_zero, List.getElem_cons_succ, List.setIfInBounds_toArray, List.set_cons_zero, List.set_cons_succ])
    refine wpAnyH_take (i := 14) (v := .bool true) rfl (by kernel_rfl) (by kernel_rfl) (by kernel_rfl) (fun _ _ _ h => h) (Or.inl ⟨by kernel_rfl, by (intro W hS; go_simp; first | done | with_reducible rfl | rfl)⟩) hS1 ?_
    (try simp only [Act.put, List.getElem_toArray, List.getElem_cons_zero, List.getElem_cons_succ, List.setIfInBounds_toArray, List.set_cons_zero, List.set_cons_succ])
    refine wpAnyH_done (by kernel_rfl) ?_ _
    go_wp2
    go_ret
    exact ⟨rfl, hS1⟩
end Go.Proofs.YtddjgbhkfdpffaaGreatDoor
