/-
  Trees that are ok: the program's look and the reference's l1Parts answer alike.
-/
import Derived.Test.YtnaecdoeldoipaaGreatDoorHTree
import Derived.Test.YtnaecdoeldoipaaGreatDoorName
set_option linter.unusedVariables false
set_option linter.unusedSimpArgs false
namespace Go.Proofs.YtnaecdoeldoipaaGreatDoor
open Go.ChangeShapes Go.WideShapes Go.ChangeAt Go.RowKit

def TextAt (s : ByteArray) (k : Nat) (h : k < s.size) : Prop := 32 ≤ (s[k].toNat : Int) ∧ (s[k].toNat : Int) ≤ 126 ∧ (s[k].toNat : Int) ≠ 34
def TextOk (s : ByteArray) : Prop := s.size ≤ 60 ∧ ∀ k (h : k < s.size), TextAt s k h

set_option maxRecDepth 100000 in
theorem isText_any (s : ByteArray) (w : World) (hs : s.size ≤ maxLen) :
    Calls Tryz.prog 136 #[.string s] w fun e w' => e = .returned (.bool (tb (TextOk s))) ∧ w = w' := by
  unfold maxLen at hs
  go_enter Tryz.func136, Tryz.ntmps136
  go_wp2
  go_loop [6] (fun i => ∃ k : Nat, k ≤ s.size ∧ i = .int .i64 k ∧ ∀ j (h : j < s.size), j < k → TextAt s j h) (fun i => s.size - (intOf i).toNat)
  case atStart => exact ⟨0, Nat.zero_le _, rfl, fun j h hj => by omega⟩
  case round =>
    obtain ⟨k, hk, rfl, ha⟩ := hrel
    have HA := hide ha
    clear ha
    by_cases hlt : k < s.size
    · go_wp2
      all_goals first
        | (go_ret; exact ⟨ret_bool (by rw [tb_false (fun h => by have := h.2 k hlt; unfold TextAt at this; (try simp only [beq_iff_eq, beq_eq_false_iff_ne, Bool.not_eq_true', Bool.not_eq_false', decide_eq_true_eq, decide_eq_false_iff_not] at *); omega)]), rfl⟩)
        | (go_round
           case rel => exact ⟨k + 1, by omega, by go_num, fun j h hj => by
             by_cases e : j < k
             · exact HA.out j h e
             · obtain rfl : j = k := by omega
               unfold TextAt
               (try simp only [beq_iff_eq, beq_eq_false_iff_ne, Bool.not_eq_true', Bool.not_eq_false', decide_eq_true_eq, decide_eq_false_iff_not] at *); omega⟩
           case measure => simp [intOf]; omega)
    · obtain rfl : k = s.size := by omega
      have HT := hide (show TextOk s ↔ (s.size : Int) ≤ 60 from ⟨fun h => by have := h.1; omega, fun h => ⟨by omega, fun k h => HA.out k h h⟩⟩)
      go_wp2
      go_ret
      refine ⟨ret_bool ?_, rfl⟩
      by_cases h : (s.size : Int) ≤ 60
      · rw [tb_true (HT.out.2 h)]; simpa using h
      · rw [tb_false (fun h' => h (HT.out.1 h'))]; simpa using h

set_option maxRecDepth 100000 in
theorem l1TextOk_any (s : ByteArray) (w : World) (hs : s.size ≤ maxLen) :
    Calls Tryz.prog 130 #[.string s] w fun e w' => e = .returned (.bool (tb (TextOk s))) ∧ w = w' := by
  unfold maxLen at hs
  by_cases h60 : (s.size : Int) ≤ 60
  · go_enter Tryz.func130, Tryz.ntmps130
    go_wp2
    go_loop [3] (fun i => ∃ k : Nat, k ≤ s.size ∧ i = .int .i64 k ∧ ∀ j (h : j < s.size), j < k → TextAt s j h) (fun i => s.size - (intOf i).toNat)
    case atStart => exact ⟨0, Nat.zero_le _, rfl, fun j h hj => by omega⟩
    case round =>
      obtain ⟨k, hk, rfl, ha⟩ := hrel
      have HA := hide ha
      clear ha
      by_cases hlt : k < s.size
      · go_wp2
        all_goals first
          | (go_ret; exact ⟨ret_bool (by rw [tb_false (fun h => by have := h.2 k hlt; unfold TextAt at this; (try simp only [beq_iff_eq, beq_eq_false_iff_ne, Bool.not_eq_true', Bool.not_eq_false', decide_eq_true_eq, decide_eq_false_iff_not] at *); omega)]), rfl⟩)
          | (go_round
             case rel => exact ⟨k + 1, by omega, by go_num, fun j h hj => by
               by_cases e : j < k
               · exact HA.out j h e
               · obtain rfl : j = k := by omega
                 unfold TextAt
                 (try simp only [beq_iff_eq, beq_eq_false_iff_ne, Bool.not_eq_true', Bool.not_eq_false', decide_eq_true_eq, decide_eq_false_iff_not] at *); omega⟩
             case measure => simp [intOf]; omega)
      · obtain rfl : k = s.size := by omega
        go_wp2
        go_ret
        exact ⟨ret_bool (by rw [tb_true ⟨by omega, fun k h => HA.out k h h⟩]), rfl⟩
  · go_enter Tryz.func130, Tryz.ntmps130
    go_wp2
    go_ret
    exact ⟨ret_bool (by rw [tb_false (fun h => by have := h.1; omega)]), rfl⟩

theorem isNum_any (n : Int) (w : World) :
    Calls Tryz.prog 135 #[.int .i64 n] w fun e w' => e = .returned (.bool (tb (-999999999 ≤ n ∧ n ≤ 999999999))) ∧ w = w' := by
  go_enter Tryz.func135, Tryz.ntmps135
  go_wp2_with fail
  refine (inRange_any _ _ _ _).mono ?_
  rintro e w' ⟨rfl, rfl⟩
  go_wp2
  go_ret
  exact ⟨rfl, rfl⟩

theorem tb_iff {p : Prop} : tb p = true ↔ p := by
  refine ⟨fun h => ?_, tb_true⟩
  by_cases hp : p
  · exact hp
  · rw [tb_false hp] at h
    cases h
theorem tb_eq {p : Prop} {b : Bool} (h : p ↔ b = true) : b = tb p := by
  cases b with
  | true => rw [tb_true (h.2 rfl)]
  | false => rw [tb_false (fun hp => by cases h.1 hp)]


def Tree.shape (t : Tree) : Prop :=
  (t.sort = 1 ∧ (-999999999 ≤ t.num ∧ t.num ≤ 999999999) ∧ t.text.toList = [] ∧ t.names.length = 0 ∧ t.kids.length = 0) ∨
  (t.sort = 2 ∧ t.num = 0 ∧ TextOk t.text ∧ t.names.length = 0 ∧ t.kids.length = 0) ∨
  (t.sort = 3 ∧ (0 ≤ t.num ∧ t.num ≤ 1) ∧ t.text.toList = [] ∧ t.names.length = 0 ∧ t.kids.length = 0) ∨
  (t.sort = 4 ∧ t.num = 0 ∧ t.text.toList = [] ∧ t.names.length = 0 ∧ t.kids.length ≤ 20) ∨
  (t.sort = 5 ∧ t.num = 0 ∧ t.text.toList = [] ∧ NamesOk t.names ∧ t.names.length = t.kids.length) ∨
  (t.sort = 6 ∧ t.num = 0 ∧ t.text.toList = [] ∧ t.names.length = 0 ∧ t.kids.length ≤ 1)

end Go.Proofs.YtnaecdoeldoipaaGreatDoor
