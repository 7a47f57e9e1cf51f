/-
  strings.IndexAny at some ASCII marks, in any text: also where the text is no ASCII.
-/
import Derived.Laws.RangeAny
import Derived.Laws.Cover4
import Derived.Laws.Runes
import Derived.Lib.IndexAny
import Derived.Test.YtnaecdoeldoipaaGreatDoorKRead
import Derived.Test.YtnaecdoeldoipaaGreatDoorKShelf
set_option linter.unusedVariables false
set_option linter.unusedSimpArgs false
namespace Go.Proofs.YtnaecdoeldoipaaGreatDoor
open Go.ChangeShapes Go.WideShapes Go.ChangeAt Go.RowKit

theorem get_of (s : ByteArray) (i : Nat) (h : i < s.size) : s.get! i = s[i]'h := by
  simp [ByteArray.get!, getElem!_pos, h]
  rfl
/-- a rune that is no ASCII swallows no ASCII -/
theorem decode_skips (s : ByteArray) (pos : Nat) (h : pos < s.size) (ha : 128 ≤ (s[pos]'h).toNat) (j : Nat) (h1 : pos < j) (h2 : j < pos + (Utf8.decode s pos).2) : ∃ hj : j < s.size, 128 ≤ (s[j]'hj).toNat := by
  have key : ∀ k, (decide (pos + k < s.size) && (s.get! (pos + k)).toNat / 64 == 2) = true → ∃ hj : pos + k < s.size, 128 ≤ (s[pos + k]'hj).toNat := by
    intro k hk
    simp only [Bool.and_eq_true, decide_eq_true_eq, beq_iff_eq] at hk
    obtain ⟨hk1, hk2⟩ := hk
    rw [get_of s _ hk1] at hk2
    exact ⟨hk1, by omega⟩
  have hn : ¬ (s.get! (pos + 0)).toNat < 128 := by rw [get_of s (pos + 0) h]; show ¬ (s[pos]'h).toNat < 128; omega
  have k1 := key 1
  have k2 := key 2
  have k3 := key 3
  clear key
  revert h2
  simp only [Utf8.decode, hn, if_false]
  repeat' split
  all_goals
    rename_i hs
    intro h2
    simp only at h2
    first
      | (exfalso; omega)
      | skip
  all_goals
    simp only [Bool.and_eq_true] at *
  · obtain rfl : j = pos + 1 := by omega
    exact k1 (by simp_all)
  · obtain rfl | rfl : j = pos + 1 ∨ j = pos + 2 := by omega
    · exact k1 (by simp_all)
    · exact k2 (by simp_all)
  · obtain rfl | rfl | rfl : j = pos + 1 ∨ j = pos + 2 ∨ j = pos + 3 := by omega
    · exact k1 (by simp_all)
    · exact k2 (by simp_all)
    · exact k3 (by simp_all)
/-- the bytes of a rune that is no ASCII -/
theorem encode_high (r : Int) (h : 128 ≤ r) : 1 ≤ (Utf8.encode r).size ∧ (Utf8.encode r).size ≤ 4 ∧ ∀ x ∈ bl (Utf8.encode r), 128 ≤ x.toNat := by
  obtain ⟨c, hc⟩ : ∃ c, (if Utf8.valid r = true then r.toNat else Utf8.runeError) = c := ⟨_, rfl⟩
  have hb : 128 ≤ c ∧ c ≤ 1114111 := by
    rw [← hc]
    by_cases hv : Utf8.valid r = true
    · rw [if_pos hv]
      unfold Utf8.valid at hv
      simp at hv
      omega
    · rw [if_neg hv]
      decide
  have hx : ∀ n, 128 ≤ n → n < 256 → 128 ≤ (UInt8.ofNat n).toNat := fun n h1 h2 => by
    rw [UInt8.toNat_ofNat_of_lt' (by omega)]
    exact h1
  unfold Utf8.encode
  simp only [hc]
  rw [if_neg (by omega)]
  split
  · refine ⟨by simp [ByteArray.size], by simp [ByteArray.size], fun x hm => ?_⟩
    simp only [bl, List.mem_cons, List.not_mem_nil, or_false] at hm
    rcases hm with rfl | rfl <;> exact hx _ (by omega) (by omega)
  · split
    · refine ⟨by simp [ByteArray.size], by simp [ByteArray.size], fun x hm => ?_⟩
      simp only [bl, List.mem_cons, List.not_mem_nil, or_false] at hm
      rcases hm with rfl | rfl | rfl <;> exact hx _ (by omega) (by omega)
    · refine ⟨by simp [ByteArray.size], by simp [ByteArray.size], fun x hm => ?_⟩
      simp only [bl, List.mem_cons, List.not_mem_nil, or_false] at hm
      rcases hm with rfl | rfl | rfl | rfl <;> exact hx _ (by omega) (by omega)
theorem indexByte_high : ∀ (l : List UInt8) (c : UInt8), (∀ x ∈ l, x.toNat < 128) → 128 ≤ c.toNat → Lib.indexByte l c = -1
  | [], _, _, _ => rfl
  | b :: l, c, h, hc => by
    have ih := indexByte_high l c (fun x hx => h x (by simp [hx])) hc
    have hb := h b (by simp)
    have hne : (b == c) = false := by
      rw [beq_eq_false_iff_ne]
      rintro rfl
      omega
    rw [Lib.indexByte, hne, ih]
    rfl
end Go.Proofs.YtnaecdoeldoipaaGreatDoor
