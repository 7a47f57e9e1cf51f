/-
  Which move is picked: both sides.
-/
import Derived.Test.YtpkjjfnfolbcoaaQTwo
import Derived.Test.YtpkjjfnfolbcoaaQPlayL
set_option linter.unusedVariables false
set_option linter.unusedSimpArgs false
namespace Go.Proofs.Ytpkjjfnfolbcoaa
open Go.ChangeShapes Go.WideShapes Go.ChangeAt Go.RowKit

theorem tmod_same (y m : Int) : y.tmod m % m = y % m := by
  have h := Int.mul_tdiv_add_tmod y m
  have h2 : (y.tmod m + m * y.tdiv m) % m = y.tmod m % m := Int.add_mul_emod_self_left _ _ _
  rw [← h2, Int.add_comm, h]
theorem pick_neg {y m : Int} (hm : 0 < m) (h : y.tmod m < 0) : y.tmod m + m = y % m := by
  have h1 := Int.lt_tmod_of_pos y hm
  have h2 : (y.tmod m + m * 1) % m = y.tmod m % m := Int.add_mul_emod_self_left _ _ _
  rw [← tmod_same, ← h2, Int.mul_one, Int.emod_eq_of_lt (by omega) (by omega)]
theorem pick_pos {y m : Int} (hm : 0 < m) (h : ¬ y.tmod m < 0) : y.tmod m = y % m := by
  have h1 := Int.tmod_lt_of_pos y hm
  rw [← tmod_same, Int.emod_eq_of_lt (by omega) h1]
theorem pick_prog {y m : Int} (hm : 0 < m) : (y.tmod m + m).tmod m = y % m := by
  have h1 := Int.lt_tmod_of_pos y hm
  have h2 : (y.tmod m + m * 1) % m = y.tmod m % m := Int.add_mul_emod_self_left _ _ _
  rw [Int.tmod_eq_emod_of_nonneg (by omega), ← tmod_same y m, ← h2, Int.mul_one]
theorem step_tmod (a b : Nat) : Int.tmod (a : Int) (b : Int) = ((a % b : Nat) : Int) := by
  rw [Int.tmod_eq_emod_of_nonneg (by omega), Int.natCast_emod]
theorem pickAt_some {picks : List Int} {n m : Nat} (h0 : 0 < picks.length) (hm : 0 < m) (hp : n % picks.length < picks.length) : ((pickAt picks n m : Nat) : Int) = picks[n % picks.length] % (m : Int) := by
  unfold pickAt
  rw [if_neg (by omega), List.getElem?_eq_getElem hp]
  have := Int.emod_nonneg picks[n % picks.length] (show (m : Int) ≠ 0 by omega)
  simp only [Option.getD_some]
  omega
theorem pickAt_none {picks : List Int} {n m : Nat} (h0 : ¬ 0 < picks.length) : ((pickAt picks n m : Nat) : Int) = 0 := by
  unfold pickAt
  rw [if_pos (by omega)]
  rfl
set_option maxRecDepth 100000 in
set_option maxHeartbeats 2000000 in
theorem l53Pick_any (picks : List Int) (A : Option Addr) (N c : Nat) (fp : List Nat) (w : World) (h : Ow w (.s 1 picks.length (picks.flatMap intC)) (.slice A N c) fp) (hf : Lt fp w.heap.size) (step many : Nat) (hm : 0 < many) (hm2 : many ≤ 1000) (hs : step ≤ 10000) (hp2 : picks.length ≤ 1048576) :
    Calls Try.prog 75 #[.slice A N c, .int .i64 (step : Int), .int .i64 (many : Int)] w fun e w' => e = .returned (.int .i64 ((pickAt picks step many : Nat) : Int)) ∧ Below w.heap.size w w' := by
  obtain ⟨rfl, hc, hmx⟩ := h.nlen
  unfold maxLen at hmx
  have HO := hide h
  clear h
  by_cases h0 : 0 < picks.length
  · have hlt : step % picks.length < picks.length := Nat.mod_lt _ h0
    have HP := hide (pickAt_some (n := step) (m := many) h0 hm hlt)
    have hst := step_tmod step picks.length
    generalize step % picks.length = p at *
    obtain ⟨g, off, rfl, hg, hcell, hw⟩ := ints_at HO.out hlt
    have hgl : g < w.heap.size := hf _ hg
    generalize picks[p] = y at *
    have hpI : (p : Int) < (picks.length : Int) := by omega
    have hp0 : (0 : Int) ≤ (p : Int) := by omega
    have hle : ((picks.length : Int) == 0) = false := beq_eq_false_iff_ne.2 (by omega)
    have hln : ¬ ((picks.length : Int) = 0) := by omega
    have hmn : ¬ ((many : Int) = 0) := by omega
    have hpe : ¬ (picks = []) := fun e => by rw [e] at h0; exact Nat.lt_irrefl _ h0
    have t1 := Int.lt_tmod_of_pos y (show (0 : Int) < (many : Int) by omega)
    have t2 := Int.tmod_lt_of_pos y (show (0 : Int) < (many : Int) by omega)
    have hmp : (0 : Int) < (many : Int) := by omega
    have wv : IntKind.i64.wrap (y.tmod (many : Int)) = y.tmod (many : Int) := wrapI _ (by omega) (by omega)
    have wu : wrap64 (y.tmod (many : Int)) = y.tmod (many : Int) := by unfold wrap64; omega
    have wv2 : IntKind.i64.wrap (y.tmod (many : Int) + (many : Int)) = y.tmod (many : Int) + (many : Int) := wrapI _ (by omega) (by omega)
    have wu2 : wrap64 (y.tmod (many : Int) + (many : Int)) = y.tmod (many : Int) + (many : Int) := by unfold wrap64; omega
    by_cases hn : y.tmod (many : Int) < 0
    · have HE := hide (pick_neg hmp hn)
      have d1 : decide (y.tmod (many : Int) < 0) = true := dec_true hn
      clear hn
      go_enter Try.func75, Try.ntmps75
      go_wp2
      go_ret
      refine ⟨ret_int ?_, Below.refl _ _⟩
      rw [HP.out, ← HE.out]
    · have HE := hide (pick_pos hmp hn)
      have d1 : decide (y.tmod (many : Int) < 0) = false := dec_false hn
      clear hn
      go_enter Try.func75, Try.ntmps75
      go_wp2
      go_ret
      refine ⟨ret_int ?_, Below.refl _ _⟩
      rw [HP.out, ← HE.out]
  · have hl : picks.length = 0 := by omega
    have HP := hide (pickAt_none (n := step) (m := many) h0)
    have hle : ((picks.length : Int) == 0) = true := by rw [hl]; rfl
    have hpe : picks = [] := List.eq_nil_of_length_eq_zero hl
    have HPE := hide hpe
    clear h0 hl hpe
    go_enter Try.func75, Try.ntmps75
    go_wp2
    go_ret
    exact ⟨ret_int HP.out.symm, Below.refl _ _⟩
set_option maxRecDepth 100000 in
set_option maxHeartbeats 2000000 in
theorem implPick_any (picks : List Int) (A : Option Addr) (N c : Nat) (fp : List Nat) (w : World) (h : Ow w (.s 1 picks.length (picks.flatMap intC)) (.slice A N c) fp) (hf : Lt fp w.heap.size) (step many : Nat) (hm : 0 < many) (hm2 : many ≤ 1000) (hs : step ≤ 10000) (hp2 : picks.length ≤ 1048576) :
    Calls Try.prog 82 #[.slice A N c, .int .i64 (step : Int), .int .i64 (many : Int)] w fun e w' => e = .returned (.int .i64 ((pickAt picks step many : Nat) : Int)) ∧ Below w.heap.size w w' := by
  obtain ⟨rfl, hc, hmx⟩ := h.nlen
  unfold maxLen at hmx
  have HO := hide h
  clear h
  by_cases h0 : 0 < picks.length
  · have hlt : step % picks.length < picks.length := Nat.mod_lt _ h0
    have HP := hide (pickAt_some (n := step) (m := many) h0 hm hlt)
    have hst := step_tmod step picks.length
    generalize step % picks.length = p at *
    obtain ⟨g, off, rfl, hg, hcell, hw⟩ := ints_at HO.out hlt
    have hgl : g < w.heap.size := hf _ hg
    generalize picks[p] = y at *
    have hpI : (p : Int) < (picks.length : Int) := by omega
    have hp0 : (0 : Int) ≤ (p : Int) := by omega
    have hle : ((picks.length : Int) == 0) = false := beq_eq_false_iff_ne.2 (by omega)
    have hln : ¬ ((picks.length : Int) = 0) := by omega
    have hmn : ¬ ((many : Int) = 0) := by omega
    have hpe : ¬ (picks = []) := fun e => by rw [e] at h0; exact Nat.lt_irrefl _ h0
    have t1 := Int.lt_tmod_of_pos y (show (0 : Int) < (many : Int) by omega)
    have t2 := Int.tmod_lt_of_pos y (show (0 : Int) < (many : Int) by omega)
    have hmp : (0 : Int) < (many : Int) := by omega
    have wv : IntKind.i64.wrap (y.tmod (many : Int)) = y.tmod (many : Int) := wrapI _ (by omega) (by omega)
    have wu : wrap64 (y.tmod (many : Int)) = y.tmod (many : Int) := by unfold wrap64; omega
    have wv2 : IntKind.i64.wrap (y.tmod (many : Int) + (many : Int)) = y.tmod (many : Int) + (many : Int) := wrapI _ (by omega) (by omega)
    have wu2 : wrap64 (y.tmod (many : Int) + (many : Int)) = y.tmod (many : Int) + (many : Int) := by unfold wrap64; omega
    have HE := hide (pick_prog (y := y) hmp)
    have r1 := Int.emod_nonneg y hmn
    have r2 := Int.emod_lt_of_pos y hmp
    have wv3 : IntKind.i64.wrap ((y.tmod (many : Int) + (many : Int)).tmod (many : Int)) = (y.tmod (many : Int) + (many : Int)).tmod (many : Int) := by rw [HE.out]; exact wrapI _ (by omega) (by omega)
    have wu3 : wrap64 ((y.tmod (many : Int) + (many : Int)).tmod (many : Int)) = (y.tmod (many : Int) + (many : Int)).tmod (many : Int) := by rw [HE.out]; unfold wrap64; omega
    go_enter Try.func82, Try.ntmps82
    go_wp2
    go_ret
    refine ⟨ret_int ?_, Below.refl _ _⟩
    rw [HP.out, ← HE.out]
    exact (Int.tmod_eq_emod_of_nonneg (by omega)).symm
  · have hl : picks.length = 0 := by omega
    have HP := hide (pickAt_none (n := step) (m := many) h0)
    have hle : ((picks.length : Int) == 0) = true := by rw [hl]; rfl
    have hpe : picks = [] := List.eq_nil_of_length_eq_zero hl
    have HPE := hide hpe
    clear h0 hl hpe
    go_enter Try.func82, Try.ntmps82
    go_wp2
    go_ret
    exact ⟨ret_int HP.out.symm, Below.refl _ _⟩
end Go.Proofs.Ytpkjjfnfolbcoaa
