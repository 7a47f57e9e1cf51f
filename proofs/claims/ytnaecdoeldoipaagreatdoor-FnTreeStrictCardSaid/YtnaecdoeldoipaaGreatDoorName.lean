/-
  Names: the program's isName, areNames and the reference's l6NameOk, l1Rise answer alike.
-/
import Derived.Test.YtnaecdoeldoipaaGreatDoorStr
set_option linter.unusedVariables false
set_option linter.unusedSimpArgs false
namespace Go.Proofs.YtnaecdoeldoipaaGreatDoor
open Go.ChangeShapes Go.WideShapes Go.ChangeAt Go.RowKit

/-- A proposition as a Bool. -/
noncomputable def tb (p : Prop) : Bool := @decide p (Classical.propDecidable p)
theorem tb_true {p : Prop} (h : p) : tb p = true := by simp [tb, h]
theorem tb_false {p : Prop} (h : ¬ p) : tb p = false := by simp [tb, h]

def NameAt (s : ByteArray) (k : Nat) (h : k < s.size) : Prop := (97 ≤ (s[k].toNat : Int) ∧ (s[k].toNat : Int) ≤ 122) ∨ (48 ≤ (s[k].toNat : Int) ∧ (s[k].toNat : Int) ≤ 57 ∧ k ≠ 0)
def NameOk (s : ByteArray) : Prop := 1 ≤ s.size ∧ s.size ≤ 8 ∧ ∀ k (h : k < s.size), NameAt s k h

theorem inRange_any (n lo hi : Int) (w : World) :
    Calls Tryz.prog 82 #[.int .i64 n, .int .i64 lo, .int .i64 hi] w fun e w' => e = .returned (.bool (tb (lo ≤ n ∧ n ≤ hi))) ∧ w = w' := by
  by_cases h1 : lo ≤ n
  · by_cases h2 : n ≤ hi
    · go_enter Tryz.func82, Tryz.ntmps82
      go_wp2
      go_ret
      exact ⟨ret_bool (by rw [tb_true ⟨h1, h2⟩]), rfl⟩
    · go_enter Tryz.func82, Tryz.ntmps82
      go_wp2
      go_ret
      exact ⟨ret_bool (by rw [tb_false (by omega)]), rfl⟩
  · go_enter Tryz.func82, Tryz.ntmps82
    go_wp2
    go_ret
    exact ⟨ret_bool (by rw [tb_false (by omega)]), rfl⟩

set_option maxRecDepth 100000 in
theorem isName_any (s : ByteArray) (w : World) (hs : s.size ≤ maxLen) :
    Calls Tryz.prog 81 #[.string s] w fun e w' => e = .returned (.bool (tb (NameOk s))) ∧ w = w' := by
  unfold maxLen at hs
  go_enter Tryz.func81, Tryz.ntmps81
  go_wp2
  go_loop [7] (fun i => ∃ k : Nat, k ≤ s.size ∧ i = .int .i64 k ∧ ∀ j (h : j < s.size), j < k → NameAt s j h) (fun i => s.size - (intOf i).toNat)
  case atStart => exact ⟨0, Nat.zero_le _, rfl, fun j h hj => by omega⟩
  case round =>
    obtain ⟨k, hk, rfl, ha⟩ := hrel
    have HA := hide ha
    clear ha
    by_cases hlt : k < s.size
    · go_wp2
      all_goals first
        | (go_ret; exact ⟨ret_bool (by rw [tb_false (fun h => by have := h.2.2 k hlt; unfold NameAt at this; (try simp only [beq_iff_eq, beq_eq_false_iff_ne, Bool.not_eq_true', Bool.not_eq_false', decide_eq_true_eq, decide_eq_false_iff_not] at *); omega)]), rfl⟩)
        | (go_round
           case rel => exact ⟨k + 1, by omega, by go_num, fun j h hj => by
             by_cases e : j < k
             · exact HA.out j h e
             · obtain rfl : j = k := by omega
               unfold NameAt
               (try simp only [beq_iff_eq, beq_eq_false_iff_ne, Bool.not_eq_true', Bool.not_eq_false', decide_eq_true_eq, decide_eq_false_iff_not] at *); omega⟩
           case measure => simp [intOf]; omega)
    · obtain rfl : k = s.size := by omega
      go_wp2_with fail
      refine (inRange_any _ _ _ _).mono ?_
      rintro e w' ⟨rfl, rfl⟩
      go_wp2
      go_ret
      refine ⟨ret_bool ?_, rfl⟩
      congr 1
      apply propext
      unfold NameOk
      constructor
      · intro h; exact ⟨by omega, by omega, fun k h => HA.out k h h⟩
      · intro h; omega

theorem l6In_any (n lo hi : Int) (w : World) :
    Calls Tryz.prog 75 #[.int .i64 n, .int .i64 lo, .int .i64 hi] w fun e w' => e = .returned (.bool (tb (lo ≤ n ∧ n ≤ hi))) ∧ w = w' := by
  by_cases h1 : lo ≤ n
  · by_cases h2 : n ≤ hi
    · go_enter Tryz.func75, Tryz.ntmps75
      go_wp2
      go_ret
      exact ⟨ret_bool (by rw [tb_true ⟨h1, h2⟩]), rfl⟩
    · go_enter Tryz.func75, Tryz.ntmps75
      go_wp2
      go_ret
      exact ⟨ret_bool (by rw [tb_false (by omega)]), rfl⟩
  · go_enter Tryz.func75, Tryz.ntmps75
    go_wp2
    go_ret
    exact ⟨ret_bool (by rw [tb_false (by omega)]), rfl⟩

theorem nameOk_first {s : ByteArray} (h : NameOk s) : ∃ h0 : 0 < s.size, 97 ≤ (s[0].toNat : Int) ∧ (s[0].toNat : Int) ≤ 122 := by
  have h0 : 0 < s.size := by have := h.1; omega
  have := h.2.2 0 h0
  unfold NameAt at this
  exact ⟨h0, by omega⟩

set_option maxRecDepth 100000 in
theorem l6NameOk_any (s : ByteArray) (w : World) (hs : s.size ≤ maxLen) :
    Calls Tryz.prog 74 #[.string s] w fun e w' => e = .returned (.bool (tb (NameOk s))) ∧ w = w' := by
  unfold maxLen at hs
  go_enter Tryz.func74, Tryz.ntmps74
  go_wp2_with fail
  refine (l6In_any _ _ _ _).mono ?_
  rintro e w' ⟨rfl, rfl⟩
  by_cases hz : (1 : Int) ≤ s.size ∧ (s.size : Int) ≤ 8
  · rw [tb_true hz]
    have h0 : 0 < s.size := by omega
    by_cases hl : 97 ≤ (s[0].toNat : Int)
    · by_cases hu : (s[0].toNat : Int) ≤ 122
      · go_wp2
        go_loop [3] (fun i => ∃ k : Nat, k ≤ s.size ∧ i = .int .i64 k ∧ ∀ j (h : j < s.size), j < k → NameAt s j h) (fun i => s.size - (intOf i).toNat)
        case atStart => exact ⟨0, Nat.zero_le _, rfl, fun j h hj => by omega⟩
        case round =>
          obtain ⟨k, hk, rfl, ha⟩ := hrel
          have HA := hide ha
          have HL := hide hl
          have HU := hide hu
          clear ha hl hu
          by_cases hlt : k < s.size
          · go_wp2
            all_goals first
              | (go_ret; exact ⟨ret_bool (by rw [tb_false (fun h => by have := h.2.2 k hlt; unfold NameAt at this; (try simp only [beq_iff_eq, beq_eq_false_iff_ne, Bool.not_eq_true', Bool.not_eq_false', decide_eq_true_eq, decide_eq_false_iff_not] at *); omega)]), rfl⟩)
              | (go_round
                 case rel => exact ⟨k + 1, by omega, by go_num, fun j h hj => by
                   by_cases e : j < k
                   · exact HA.out j h e
                   · obtain rfl : j = k := by omega
                     unfold NameAt
                     by_cases e0 : j = 0
                     · subst e0
                       exact .inl ⟨HL.out, HU.out⟩
                     · (try simp only [beq_iff_eq, beq_eq_false_iff_ne, Bool.not_eq_true', Bool.not_eq_false', decide_eq_true_eq, decide_eq_false_iff_not] at *); omega⟩
                 case measure => simp [intOf]; omega)
          · obtain rfl : k = s.size := by omega
            go_wp2
            go_ret
            exact ⟨ret_bool (by rw [tb_true ⟨by omega, by omega, fun k h => HA.out k h h⟩]), rfl⟩
      · go_wp2
        go_ret
        exact ⟨ret_bool (by rw [tb_false (fun h => by obtain ⟨_, _⟩ := nameOk_first h; omega)]), rfl⟩
    · go_wp2
      go_ret
      exact ⟨ret_bool (by rw [tb_false (fun h => by obtain ⟨_, _⟩ := nameOk_first h; omega)]), rfl⟩
  · rw [tb_false hz]
    go_wp2
    go_ret
    exact ⟨ret_bool (by rw [tb_false (fun h => by have := h.1; have := h.2.1; omega)]), rfl⟩

def NamesAt (l : List ByteArray) (i : Nat) (h : i < l.length) : Prop := NameOk l[i] ∧ (0 < i → Op.bytesLess (l[i - 1]'(by omega)).toList l[i].toList = true)
def NamesOk (l : List ByteArray) : Prop := ∀ i (h : i < l.length), NamesAt l i h

theorem names_step (l : List ByteArray) (k : Nat) (hk : k < l.length) (ha : ∀ j (h : j < l.length), j < k → NamesAt l j h) (hn : NamesAt l k hk) : ∀ j (h : j < l.length), j < k + 1 → NamesAt l j h := fun j h hj => by
  by_cases e : j < k
  · exact ha j h e
  · obtain rfl : j = k := by omega
    exact hn

set_option maxRecDepth 100000 in
theorem areNames_any (l : List ByteArray) (A : Option Addr) (n c : Nat) (fp : List Nat) (w : World) (h : Ow w (.s 1 l.length (l.flatMap strC)) (.slice A n c) fp) :
    Calls Tryz.prog 137 #[.slice A n c] w fun e w' => e = .returned (.bool (tb (NamesOk l))) ∧ w = w' := by
  obtain ⟨rfl, hc, hm⟩ := h.nlen
  unfold maxLen at hm
  go_enter Tryz.func137, Tryz.ntmps137
  go_wp2
  go_loop [7] (fun i => ∃ k : Nat, k ≤ l.length ∧ i = .int .i64 k ∧ ∀ j (h : j < l.length), j < k → NamesAt l j h) (fun i => l.length - (intOf i).toNat)
  case atStart => exact ⟨0, Nat.zero_le _, rfl, fun j h hj => by omega⟩
  case round =>
    obtain ⟨k, hk, rfl, ha⟩ := hrel
    have HA := hide ha
    clear ha
    by_cases hlt : k < l.length
    · obtain ⟨g, off, rfl, _, hcell, hs⟩ := strs_at h hlt
      go_wp2_with fail
      refine (isName_any _ _ hs).mono ?_
      rintro e w' ⟨rfl, rfl⟩
      by_cases hn : NameOk l[k]
      · rw [tb_true hn]
        by_cases h0 : 0 < k
        · obtain ⟨_, _, e1, _, hcell', hs'⟩ := strs_at h (i := k - 1) (by omega)
          injection e1 with e1
          injection e1 with e1 e2
          subst e1 e2
          have h1 : (0 : Int) ≤ (k : Int) - 1 := by omega
          by_cases hb : Op.bytesLess (l[k - 1]'(by omega)).toList l[k].toList = true
          · have HB := hide hb
            go_wp2
            go_round
            case rel => exact ⟨k + 1, by omega, by go_num, names_step l k hlt HA.out ⟨hn, fun _ => HB.out⟩⟩
            case measure => simp [intOf]; omega
          · go_wp2
            go_ret
            exact ⟨ret_bool (by rw [tb_false (fun hh => hb ((hh k hlt).2 h0))]), rfl⟩
        · go_wp2
          go_round
          case rel => exact ⟨k + 1, by omega, by go_num, names_step l k hlt HA.out ⟨hn, fun h => absurd h h0⟩⟩
          case measure => simp [intOf]; omega
      · rw [tb_false hn]
        go_wp2
        go_ret
        exact ⟨ret_bool (by rw [tb_false (fun hh => hn (hh k hlt).1)]), rfl⟩
    · obtain rfl : k = l.length := by omega
      go_wp2
      go_ret
      exact ⟨ret_bool (Eq.symm (tb_true (fun i h => HA.out i h h))), rfl⟩
theorem l6NameOk_yes (s : ByteArray) (w : World) (hs : s.size ≤ maxLen) (h : NameOk s) :
    Calls Tryz.prog 74 #[.string s] w fun e w' => e = .returned (.bool true) ∧ w' = w :=
  (l6NameOk_any s w hs).mono fun e w' ⟨he, hw⟩ => ⟨by rw [he, tb_true h], hw.symm⟩
theorem l6NameOk_no (s : ByteArray) (w : World) (hs : s.size ≤ maxLen) (h : ¬ NameOk s) :
    Calls Tryz.prog 74 #[.string s] w fun e w' => e = .returned (.bool false) ∧ w' = w :=
  (l6NameOk_any s w hs).mono fun e w' ⟨he, hw⟩ => ⟨by rw [he, tb_false h], hw.symm⟩

set_option maxRecDepth 100000 in
theorem l1Rise_any (l : List ByteArray) (A : Option Addr) (n c : Nat) (fp : List Nat) (w : World) (h : Ow w (.s 1 l.length (l.flatMap strC)) (.slice A n c) fp) :
    Calls Tryz.prog 131 #[.slice A n c] w fun e w' => e = .returned (.bool (tb (NamesOk l))) ∧ ∃ q, w.drewN q = w' := by
  obtain ⟨rfl, hc, hm⟩ := h.nlen
  unfold maxLen at hm
  go_enter Tryz.func131, Tryz.ntmps131
  go_wp2
  go_loopw [3] (fun i wr => (∃ k : Nat, k ≤ l.length ∧ i = .int .i64 k ∧ ∀ j (h : j < l.length), j < k → NamesAt l j h) ∧ ∃ q, wr = w.drewN q) (fun i _ => l.length - (intOf i).toNat)
  case atStart => exact ⟨⟨0, Nat.zero_le _, rfl, fun j h hj => by omega⟩, 0, rfl⟩
  case round =>
    obtain ⟨⟨k, hk, rfl, ha⟩, q, rfl⟩ := hrel
    have HA := hide ha
    clear ha
    by_cases hlt : k < l.length
    · obtain ⟨g, off, rfl, _, hcell, hs⟩ := strs_at h hlt
      by_cases hn : NameOk l[k]
      · by_cases h0 : 0 < k
        · obtain ⟨_, _, e1, _, hcell', hs'⟩ := strs_at h (i := k - 1) (by omega)
          injection e1 with e1
          injection e1 with e1 e2
          subst e1 e2
          have h1 : (0 : Int) ≤ (k : Int) - 1 := by omega
          have d0 : decide ((0 : Int) < (k : Int)) = true := by simpa using h0
          by_cases hb : Op.bytesLess (l[k - 1]'(by omega)).toList l[k].toList = true
          · have HB := hide hb
            go_wp2
            go_quiet ((go_at_call 74; exact quiet_add_same (l6NameOk_yes _ _ hs hn)))
            go_wp2
            go_roundw
            case rel => exact ⟨⟨k + 1, by omega, by go_num, names_step l k hlt HA.out ⟨hn, fun _ => HB.out⟩⟩, _, rfl⟩
            case measure => simp [intOf]; omega
          · go_wp2
            go_quiet ((go_at_call 74; exact quiet_add_same (l6NameOk_yes _ _ hs hn)))
            go_wp2
            go_ret
            exact ⟨ret_bool (by rw [tb_false (fun hh => hb ((hh k hlt).2 h0))]), _, (World.drewN_drewN _ _ _).symm⟩
        · have d0 : decide ((0 : Int) < (k : Int)) = false := by simp; omega
          go_wp2
          go_quiet ((go_at_call 74; exact quiet_add_same (l6NameOk_yes _ _ hs hn)))
          go_wp2
          go_roundw
          case rel => exact ⟨⟨k + 1, by omega, by go_num, names_step l k hlt HA.out ⟨hn, fun h => absurd h h0⟩⟩, _, rfl⟩
          case measure => simp [intOf]; omega
      · go_wp2
        go_quiet ((go_at_call 74; exact quiet_add_same (l6NameOk_no _ _ hs hn)))
        go_wp2
        go_ret
        exact ⟨ret_bool (by rw [tb_false (fun hh => hn (hh k hlt).1)]), _, (World.drewN_drewN _ _ _).symm⟩
    · obtain rfl : k = l.length := by omega
      go_wp2
      go_ret
      exact ⟨ret_bool (Eq.symm (tb_true (fun i h => HA.out i h h))), _, rfl⟩
end Go.Proofs.YtnaecdoeldoipaaGreatDoor
