/-
  A byte of a number: plain.
-/
import Derived.Test.YtnaecdoeldoipaaGreatDoorKit
set_option linter.unusedSimpArgs false
namespace Go.Proofs.YtnaecdoeldoipaaGreatDoor
theorem u8_nat (n : Nat) (h : n < 256) : (UInt8.ofNat n).toNat = n := by simp [UInt8.toNat_ofNat]; omega
end Go.Proofs.YtnaecdoeldoipaaGreatDoor
