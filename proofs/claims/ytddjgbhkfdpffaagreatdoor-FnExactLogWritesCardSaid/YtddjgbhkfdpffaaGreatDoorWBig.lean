/-
  The program's big: the number that bytes are, the highest first.
-/
import Derived.Laws.BitsAllLaws
import Derived.Test.YtddjgbhkfdpffaaGreatDoorWRLogAct
set_option linter.unusedVariables false
set_option linter.unusedSimpArgs false
namespace Go.Proofs.YtddjgbhkfdpffaaGreatDoor
open Go.ChangeShapes Go.WideShapes Go.ChangeAt Go.RowKit

def bigTo (s : ByteArray) : Nat → Nat
  | 0 => 0
  | k + 1 => bigTo s k * 256 + bAt s k
theorem bigTo_lt (s : ByteArray) : ∀ k, bigTo s k < 256 ^ k
  | 0 => by simp [bigTo]
  | k + 1 => by
    have h1 := bigTo_lt s k
    have h2 := bAt_lt s k
    simp only [bigTo, Nat.pow_succ]
    omega

theorem or_i64_nat (a b : Nat) (ha : a < 9223372036854775808) (hb : b < 9223372036854775808) : bits .or .i64 (a : Int) (b : Int) = ((a ||| b : Nat) : Int) := by
  have hx : a ||| b < 2 ^ 63 := Nat.or_lt_two_pow (by omega) (by omega)
  have h1 : (BitVec.ofInt 64 (a : Int)).toNat = a := by
    rw [BitVec.ofInt_natCast, BitVec.toNat_ofNat]; exact Nat.mod_eq_of_lt (by omega)
  have h2 : (BitVec.ofInt 64 (b : Int)).toNat = b := by
    rw [BitVec.ofInt_natCast, BitVec.toNat_ofNat]; exact Nat.mod_eq_of_lt (by omega)
  show IntKind.i64.wrap ((BitVec.ofInt 64 (a : Int) ||| BitVec.ofInt 64 (b : Int)).toNat : Int) = _
  rw [BitVec.toNat_or, h1, h2, IntKind.wrap_i64]
  omega
theorem or_byte (n b : Nat) (hn : n < 65536) (hb : b < 256) : bits .or .i64 ((n : Int) * 256) (b : Int) = ((n * 256 + b : Nat) : Int) := by
  have h := or_i64_nat (n * 256) b (by omega) (by omega)
  have h2 : n * 256 + b = n * 256 ||| b := by
    have := Nat.shiftLeft_add_eq_or_of_lt (i := 8) (b := b) (by simpa using hb) n
    simpa [Nat.shiftLeft_eq] using this
  rw [h2, ← h]
  simp

set_option maxRecDepth 100000 in
theorem big_any (s : ByteArray) (w : World) (hs : s.size ≤ 3) :
    Calls Tryz.prog 131 #[.string s] w fun e w' => e = .returned (.int .i64 (bigTo s s.size : Nat)) ∧ w = w' := by
  go_enter Tryz.func131, Tryz.ntmps131
  go_wp2
  go_loop [3, 7] (fun n i => ∃ k : Nat, k ≤ s.size ∧ n = .int .i64 (bigTo s k : Nat) ∧ i = .int .i64 k) (fun _ i => s.size - (intOf i).toNat)
  case atStart => exact ⟨0, Nat.zero_le _, rfl, rfl⟩
  case round =>
    obtain ⟨k, hk, rfl, rfl⟩ := hrel
    by_cases hlt : k < s.size
    · have h1 : bigTo s k < 65536 := Nat.lt_of_lt_of_le (bigTo_lt s k) (Nat.pow_le_pow_right (by decide : 0 < 256) (show k ≤ 2 by omega))
      have h2 := hide (show bigTo s (k + 1) = bigTo s k * 256 + s[k].toNat by rw [← bAt_eq hlt]; rfl)
      generalize bigTo s k = n at *
      go_wp2
      go_round
      case rel => exact ⟨k + 1, by omega, by
        rw [h2.out, ← or_byte n s[k].toNat h1 (UInt8.toNat_lt _)]
        have e : wrap64 (s[k].toNat : Int) = (s[k].toNat : Int) := by have := UInt8.toNat_lt s[k]; simp only [wrap64]; omega
        rw [e], by go_num⟩
      case measure => simp [intOf]; omega
    · obtain rfl : k = s.size := by omega
      go_wp2
      go_ret
      exact ⟨rfl, rfl⟩
end Go.Proofs.YtddjgbhkfdpffaaGreatDoor
