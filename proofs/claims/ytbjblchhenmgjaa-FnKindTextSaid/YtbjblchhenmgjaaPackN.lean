/-
  The reference's l4Num.
-/
import Derived.Test.YtbjblchhenmgjaaPackS
set_option linter.unusedVariables false
set_option linter.unusedSimpArgs false
namespace Go.Proofs.Ytbjblchhenmgjaa
open Go.ChangeShapes Go.WideShapes Go.ChangeAt Go.RowKit

set_option maxRecDepth 100000 in
set_option maxHeartbeats 1000000 in
theorem l4Num_any (z : Int) (w : World) (hz : -999999999 ≤ z ∧ z ≤ 999999999) :
    Calls Try.prog 219 #[.int .i64 z] w fun e w' => ∃ v', e = .returned v' ∧ Byt w' w.heap.size v' (numB z) ∧ Below w.heap.size w w' := by
  have hN : z.natAbs < 1073741824 := by omega
  have hw0 : ∀ o, Below w.heap.size w (w.alloc o) := fun o => (Below.refl _ _).alloc (Nat.le_refl _) _
  by_cases hneg : z < 0
  · have HE := hide (show numB z = 1 :: sevens z.natAbs by unfold numB; rw [if_pos hneg])
    have H0 := hide (Byt.new w 1)
    go_enter Try.func219, Try.ntmps219
    go_wp2
    go_loopw [0, 3] (fun sz vv wr => ∃ (n : Nat) (dn : List UInt8), sz = .int .i64 n ∧ n < 1073741824 ∧ dn ++ sevens n = sevens z.natAbs ∧ Byt wr w.heap.size vv ([1] ++ dn) ∧ Below w.heap.size w wr) (fun sz _ _ => (intOf sz).toNat)
    case atStart => exact ⟨z.natAbs, [], by congr 1; omega, hN, rfl, by simpa using H0.out, hw0 _⟩
    case round =>
      obtain ⟨n, dn, rfl, hn1, hdn, hby, hkb⟩ := hrel
      have HBY := hide hby
      have HKB := hide hkb
      have b3 := hkb.size
      have hdl : dn.length + (sevens n).length = (sevens z.natAbs).length := by rw [← hdn]; simp
      have h5l := sevens_len 4 z.natAbs (by have : (128 : Nat) ^ 5 = 34359738368 := by decide
                                            omega)
      have HDN := hide hdn
      clear hby hkb hdn
      by_cases hge : 128 ≤ n
      · have hs := hide (sevens_ge hge)
        go_wp2_with (at_builtin; refine wpl_push1 _ _ rfl _ _ rfl w.heap.size _ _ rfl HBY.out (UInt8.ofNat (n % 128 + 128)) _ rfl ?pg1 ?pz1 ?pl1 ?pb1 ?_)
        case pg1 => first | rfl | simp
        case pz1 => rw [u8_of _ (by omega)]; omega
        case pl1 => (try simp); omega
        case pb1 => omega
        intro v4 w4_ h4 k4
        have H4 := hide h4
        have K4 := hide (HKB.out.trans k4.below)
        clear h4 k4
        go_wp2
        go_roundw
        case rel => exact ⟨n / 128, dn ++ [UInt8.ofNat (n % 128 + 128)], by go_num, by omega, by rw [← HDN.out, hs.out]; simp, by simpa using H4.out, K4.out⟩
        case measure => simp [intOf]; omega
      · have hs := hide (sevens_lt (n := n) (by omega))
        go_wp2_with (at_builtin; refine wpl_push1 _ _ rfl _ _ rfl w.heap.size _ _ rfl HBY.out (UInt8.ofNat n) _ rfl ?pg2 ?pz2 ?pl2 ?pb2 ?_)
        case pg2 => first | rfl | simp
        case pz2 => rw [u8_of _ (by omega)]; (try omega)
        case pl2 => (try simp); omega
        case pb2 => omega
        intro v4 w4_ h4 k4
        have H4 := hide h4
        have K4 := hide (HKB.out.trans k4.below)
        clear h4 k4
        go_wp2
        go_ret
        exact ⟨v4, rfl, by rw [HE.out, ← HDN.out, hs.out]; simpa using H4.out, K4.out⟩
  · have HE := hide (show numB z = 0 :: sevens z.natAbs by unfold numB; rw [if_neg hneg])
    have H0 := hide (Byt.new w 0)
    go_enter Try.func219, Try.ntmps219
    go_wp2
    go_loopw [0, 3] (fun sz vv wr => ∃ (n : Nat) (dn : List UInt8), sz = .int .i64 n ∧ n < 1073741824 ∧ dn ++ sevens n = sevens z.natAbs ∧ Byt wr w.heap.size vv ([0] ++ dn) ∧ Below w.heap.size w wr) (fun sz _ _ => (intOf sz).toNat)
    case atStart => exact ⟨z.natAbs, [], by congr 1; omega, hN, rfl, by simpa using H0.out, hw0 _⟩
    case round =>
      obtain ⟨n, dn, rfl, hn1, hdn, hby, hkb⟩ := hrel
      have HBY := hide hby
      have HKB := hide hkb
      have b3 := hkb.size
      have hdl : dn.length + (sevens n).length = (sevens z.natAbs).length := by rw [← hdn]; simp
      have h5l := sevens_len 4 z.natAbs (by have : (128 : Nat) ^ 5 = 34359738368 := by decide
                                            omega)
      have HDN := hide hdn
      clear hby hkb hdn
      by_cases hge : 128 ≤ n
      · have hs := hide (sevens_ge hge)
        go_wp2_with (at_builtin; refine wpl_push1 _ _ rfl _ _ rfl w.heap.size _ _ rfl HBY.out (UInt8.ofNat (n % 128 + 128)) _ rfl ?pg3 ?pz3 ?pl3 ?pb3 ?_)
        case pg3 => first | rfl | simp
        case pz3 => rw [u8_of _ (by omega)]; omega
        case pl3 => (try simp); omega
        case pb3 => omega
        intro v4 w4_ h4 k4
        have H4 := hide h4
        have K4 := hide (HKB.out.trans k4.below)
        clear h4 k4
        go_wp2
        go_roundw
        case rel => exact ⟨n / 128, dn ++ [UInt8.ofNat (n % 128 + 128)], by go_num, by omega, by rw [← HDN.out, hs.out]; simp, by simpa using H4.out, K4.out⟩
        case measure => simp [intOf]; omega
      · have hs := hide (sevens_lt (n := n) (by omega))
        go_wp2_with (at_builtin; refine wpl_push1 _ _ rfl _ _ rfl w.heap.size _ _ rfl HBY.out (UInt8.ofNat n) _ rfl ?pg4 ?pz4 ?pl4 ?pb4 ?_)
        case pg4 => first | rfl | simp
        case pz4 => rw [u8_of _ (by omega)]; (try omega)
        case pl4 => (try simp); omega
        case pb4 => omega
        intro v4 w4_ h4 k4
        have H4 := hide h4
        have K4 := hide (HKB.out.trans k4.below)
        clear h4 k4
        go_wp2
        go_ret
        exact ⟨v4, rfl, by rw [HE.out, ← HDN.out, hs.out]; simpa using H4.out, K4.out⟩
end Go.Proofs.Ytbjblchhenmgjaa
