/-
  Decimals: what strconv.Itoa and the reference's l6Dec make.
-/
import Derived.Test.YtnaecdoeldoipaaGreatDoorStr
import Derived.Lib.ItoaNum
set_option linter.unusedVariables false
set_option linter.unusedSimpArgs false
namespace Go.Proofs.YtnaecdoeldoipaaGreatDoor
open Go.ChangeShapes Go.WideShapes Go.ChangeAt Go.RowKit

def dec (n : Int) : ByteArray := ⟨(Lib.itoa n).toArray⟩
theorem decDigits_len : ∀ (k u : Nat), u < 10 ^ (k + 1) → (Lib.decDigits u).length ≤ k + 1
  | 0, u, h => by
    rw [Lib.decDigits, dif_pos (by simpa using h)]
    simp
  | k + 1, u, h => by
    rw [Lib.decDigits]
    split
    · simp
    · rw [List.length_append]
      have := decDigits_len k (u / 10) (by rw [Nat.pow_succ] at h; omega)
      simp
      omega
theorem dec_size (n : Int) (h1 : -9223372036854775808 ≤ n) (h2 : n ≤ 9223372036854775807) : (dec n).size ≤ 20 := by
  have hs : (dec n).size = (Lib.itoa n).length := by simp [dec, ByteArray.size]
  rw [hs]
  have e10 : (10 : Nat) ^ (18 + 1) = 10000000000000000000 := by decide
  unfold Lib.itoa
  split
  · have := decDigits_len 18 n.natAbs (by rw [e10]; omega)
    simp only [List.length_cons]; omega
  · have := decDigits_len 18 n.toNat (by rw [e10]; omega)
    omega
theorem dec_neg {n : Int} (h : n < 0) : dec n = ⟨#[45]⟩ ++ dec (-n) := by
  unfold dec Lib.itoa
  rw [if_pos h, if_neg (by omega)]
  have e : (-n).toNat = n.natAbs := by omega
  rw [e]
  apply ByteArray.ext
  simp
theorem dec_low {n : Int} (h0 : 0 ≤ n) (h : n < 10) : dec n = ⟨#[UInt8.ofNat (48 + n.toNat)]⟩ := by
  unfold dec Lib.itoa
  rw [if_neg (by omega), Lib.decDigits, dif_pos (by omega)]
theorem dec_high {n : Int} (h : 10 ≤ n) : dec n = dec (n / 10) ++ ⟨#[UInt8.ofNat (48 + (n % 10).toNat)]⟩ := by
  unfold dec Lib.itoa
  rw [if_neg (by omega), if_neg (by omega), Lib.decDigits, dif_neg (by omega)]
  have e1 : (n / 10).toNat = n.toNat / 10 := by omega
  have e2 : (n % 10).toNat = n.toNat % 10 := by omega
  rw [e1, e2]
  apply ByteArray.ext
  simp
end Go.Proofs.YtnaecdoeldoipaaGreatDoor
