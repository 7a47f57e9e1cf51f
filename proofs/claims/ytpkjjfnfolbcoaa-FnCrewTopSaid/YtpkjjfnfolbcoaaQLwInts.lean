/-
  The comparing of slices of numbers: lwInts, where both are the same.
-/
import Derived.BigQuiet
import Derived.Deep.RegionHeld3
import Derived.Test.YtpkjjfnfolbcoaaQStr
set_option linter.unusedVariables false
set_option linter.unusedSimpArgs false
namespace Go.Proofs.Ytpkjjfnfolbcoaa
open Go.ChangeShapes Go.WideShapes Go.ChangeAt Go.RowKit

set_option maxRecDepth 100000 in
theorem lwInts_same (l : List Int) (A A' : Option Addr) (n n' c c' : Nat) (fp fp' : List Nat) (w : World) (h : Ow w (.s 1 l.length (l.flatMap intC)) (.slice A n c) fp) (h' : Ow w (.s 1 l.length (l.flatMap intC)) (.slice A' n' c') fp') :
    Calls Try.prog 70 #[.slice A n c, .slice A' n' c'] w fun e w' => e = .returned (.bool true) ∧ Below w.heap.size w w' := by
  obtain ⟨rfl, hc, hm⟩ := h.nlen
  obtain ⟨rfl, hc', hm'⟩ := h'.nlen
  unfold maxLen at hm hm'
  go_enter Try.func70, Try.ntmps70
  go_wp2
  go_loopw [5] (fun i wr => (∃ k : Nat, k ≤ l.length ∧ i = .int .i64 k) ∧ ∃ q, wr = w.drewN q) (fun i _ => l.length - (intOf i).toNat)
  case atStart => exact ⟨⟨0, Nat.zero_le _, rfl⟩, 0, rfl⟩
  case round =>
    obtain ⟨⟨k, hk, rfl⟩, q, rfl⟩ := hrel
    by_cases hlt : k < l.length
    · obtain ⟨g, off, rfl, _, hcell, hs⟩ := ints_at h hlt
      obtain ⟨g', off', rfl, _, hcell', _⟩ := ints_at h' hlt
      generalize l[k] = s at *
      go_wp2
      go_quiet (fail)
      go_wp2
      go_roundw
      case rel => exact ⟨⟨k + 1, by omega, by go_num⟩, _, rfl⟩
      case measure => simp [intOf]; omega
    · obtain rfl : k = l.length := by omega
      go_wp2
      go_ret
      exact ⟨rfl, below_drewN (Below.refl _ _) q⟩
end Go.Proofs.Ytpkjjfnfolbcoaa
