/-
  A byte of a number: plain.
-/
import Derived.Test.YtknlnndocamcmaaDoorKit
set_option linter.unusedSimpArgs false
namespace Go.Proofs.YtknlnndocamcmaaDoor
theorem u8_nat (n : Nat) (h : n < 256) : (UInt8.ofNat n).toNat = n := by simp [UInt8.toNat_ofNat]; omega
end Go.Proofs.YtknlnndocamcmaaDoor
