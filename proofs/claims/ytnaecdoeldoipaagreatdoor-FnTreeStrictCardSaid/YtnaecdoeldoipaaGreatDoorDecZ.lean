/-
  Decimals of the reference: numbers below 0 as well.
-/
import Derived.Test.YtnaecdoeldoipaaGreatDoorDecS
set_option linter.unusedVariables false
set_option linter.unusedSimpArgs false
namespace Go.Proofs.YtnaecdoeldoipaaGreatDoor
open Go.ChangeShapes Go.WideShapes Go.ChangeAt Go.RowKit

set_option maxRecDepth 100000 in
set_option maxHeartbeats 1000000 in
theorem specDecZ_any (z : Int) (h0 : -4611686018427387904 ≤ z) (h1 : z ≤ 4611686018427387904) (w : World) : Calls Tryz.prog 83 #[.int .i64 z] w fun e w' => e = .returned (.string (dec z)) ∧ Below w.heap.size w w' := by
  by_cases hz : 0 ≤ z
  · obtain ⟨n, rfl⟩ := Int.eq_ofNat_of_zero_le hz
    exact specDecN_any n w (by omega)
  · obtain ⟨n, hn⟩ := Int.eq_ofNat_of_zero_le (show 0 ≤ -z by omega)
    have HC := hide (specDecN_any n w (by omega))
    have e1 : IntKind.i64.wrap (-z) = (n : Int) := by rw [wrapI _ (by omega) (by omega)]; exact hn
    have e2 : wrap64 (-z) = (n : Int) := by unfold wrap64; omega
    have hs := dec_size (n : Int) (by omega) (by omega)
    have HD := hide (show dec z = ⟨#[45]⟩ ++ dec (n : Int) from by rw [dec_neg (by omega), hn])
    have ha : ¬ (z < -9223372036854775807) := by omega
    have hb : z < 0 := by omega
    have s1 : (ByteArray.mk #[45]).size = 1 := rfl
    have HE1 := hide e1
    have HE2 := hide e2
    clear hn
    go_enter Tryz.func83, Tryz.ntmps83
    go_wp2_with fail
    first
      | refine HC.out.mono ?_
      | (rw [HE2.out]; refine HC.out.mono ?_)
      | (rw [HE1.out]; refine HC.out.mono ?_)
    rintro e w2 ⟨rfl, hb2⟩
    go_wp2
    go_ret
    exact ⟨ret_str HD.out.symm, hb2⟩
end Go.Proofs.YtnaecdoeldoipaaGreatDoor
