/-
  Names: the program's isName, areNames and the reference's l6NameOk, l1Rise answer alike. LogPart: what the laws' own helpers do: the size, a copy, equality. LogPlan: what the laws' own helpers do: the size, a copy, equality.
-/
import Derived.Test.YtddjgbhkfdpffaaGreatDoorOStr
import Derived.Test.YtddjgbhkfdpffaaGreatDoorORead
import Derived.Test.YtddjgbhkfdpffaaGreatDoorODLogPart
set_option linter.unusedVariables false
set_option linter.unusedSimpArgs false
namespace Go.Proofs.YtddjgbhkfdpffaaGreatDoor
open Go.ChangeShapes Go.WideShapes Go.ChangeAt Go.RowKit

/-- A proposition as a Bool. -/
noncomputable def tb (p : Prop) : Bool := @decide p (Classical.propDecidable p)
theorem tb_true {p : Prop} (h : p) : tb p = true := by simp [tb, h]
theorem tb_false {p : Prop} (h : ¬ p) : tb p = false := by simp [tb, h]

def NameAt (s : ByteArray) (k : Nat) (h : k < s.size) : Prop := (97 ≤ (s[k].toNat : Int) ∧ (s[k].toNat : Int) ≤ 122) ∨ (48 ≤ (s[k].toNat : Int) ∧ (s[k].toNat : Int) ≤ 57 ∧ k ≠ 0)
def NameOk (s : ByteArray) : Prop := 1 ≤ s.size ∧ s.size ≤ 8 ∧ ∀ k (h : k < s.size), NameAt s k h

theorem inRange_any (n lo hi : Int) (w : World) :
    Calls Tryz.prog 70 #[.int .i64 n, .int .i64 lo, .int .i64 hi] w fun e w' => e = .returned (.bool (tb (lo ≤ n ∧ n ≤ hi))) ∧ w = w' := by
  by_cases h1 : lo ≤ n
  · by_cases h2 : n ≤ hi
    · go_enter Tryz.func70, Tryz.ntmps70
      go_wp2
      go_ret
      exact ⟨ret_bool (by rw [tb_true ⟨h1, h2⟩]), rfl⟩
    · go_enter Tryz.func70, Tryz.ntmps70
      go_wp2
      go_ret
      exact ⟨ret_bool (by rw [tb_false (by omega)]), rfl⟩
  · go_enter Tryz.func70, Tryz.ntmps70
    go_wp2
    go_ret
    exact ⟨ret_bool (by rw [tb_false (by omega)]), rfl⟩

set_option maxRecDepth 100000 in
theorem isName_any (s : ByteArray) (w : World) (hs : s.size ≤ maxLen) :
    Calls Tryz.prog 86 #[.string s] w fun e w' => e = .returned (.bool (tb (NameOk s))) ∧ w = w' := by
  unfold maxLen at hs
  go_enter Tryz.func86, Tryz.ntmps86
  go_wp2
  go_loop [7] (fun i => ∃ k : Nat, k ≤ s.size ∧ i = .int .i64 k ∧ ∀ j (h : j < s.size), j < k → NameAt s j h) (fun i => s.size - (intOf i).toNat)
  case atStart => exact ⟨0, Nat.zero_le _, rfl, fun j h hj => by omega⟩
  case round =>
    obtain ⟨k, hk, rfl, ha⟩ := hrel
    have HA := hide ha
    clear ha
    by_cases hlt : k < s.size
    · go_wp2
      all_goals first
        | (go_ret; exact ⟨ret_bool (by rw [tb_false (fun h => by have := h.2.2 k hlt; unfold NameAt at this; (try simp only [beq_iff_eq, beq_eq_false_iff_ne, Bool.not_eq_true', Bool.not_eq_false', decide_eq_true_eq, decide_eq_false_iff_not] at *); omega)]), rfl⟩)
        | (go_round
           case rel => exact ⟨k + 1, by omega, by go_num, fun j h hj => by
             by_cases e : j < k
             · exact HA.out j h e
             · obtain rfl : j = k := by omega
               unfold NameAt
               (try simp only [beq_iff_eq, beq_eq_false_iff_ne, Bool.not_eq_true', Bool.not_eq_false', decide_eq_true_eq, decide_eq_false_iff_not] at *); omega⟩
           case measure => simp [intOf]; omega)
    · obtain rfl : k = s.size := by omega
      go_wp2_with fail
      refine (inRange_any _ _ _ _).mono ?_
      rintro e w' ⟨rfl, rfl⟩
      go_wp2
      go_ret
      refine ⟨ret_bool ?_, rfl⟩
      congr 1
      apply propext
      unfold NameOk
      constructor
      · intro h; exact ⟨by omega, by omega, fun k h => HA.out k h h⟩
      · intro h; omega

theorem l6In_any (n lo hi : Int) (w : World) :
    Calls Tryz.prog 56 #[.int .i64 n, .int .i64 lo, .int .i64 hi] w fun e w' => e = .returned (.bool (tb (lo ≤ n ∧ n ≤ hi))) ∧ w = w' := by
  by_cases h1 : lo ≤ n
  · by_cases h2 : n ≤ hi
    · go_enter Tryz.func56, Tryz.ntmps56
      go_wp2
      go_ret
      exact ⟨ret_bool (by rw [tb_true ⟨h1, h2⟩]), rfl⟩
    · go_enter Tryz.func56, Tryz.ntmps56
      go_wp2
      go_ret
      exact ⟨ret_bool (by rw [tb_false (by omega)]), rfl⟩
  · go_enter Tryz.func56, Tryz.ntmps56
    go_wp2
    go_ret
    exact ⟨ret_bool (by rw [tb_false (by omega)]), rfl⟩

theorem nameOk_first {s : ByteArray} (h : NameOk s) : ∃ h0 : 0 < s.size, 97 ≤ (s[0].toNat : Int) ∧ (s[0].toNat : Int) ≤ 122 := by
  have h0 : 0 < s.size := by have := h.1; omega
  have := h.2.2 0 h0
  unfold NameAt at this
  exact ⟨h0, by omega⟩

set_option maxRecDepth 100000 in
theorem l6NameOk_any (s : ByteArray) (w : World) (hs : s.size ≤ maxLen) :
    Calls Tryz.prog 74 #[.string s] w fun e w' => e = .returned (.bool (tb (NameOk s))) ∧ w = w' := by
  unfold maxLen at hs
  go_enter Tryz.func74, Tryz.ntmps74
  go_wp2_with fail
  refine (l6In_any _ _ _ _).mono ?_
  rintro e w' ⟨rfl, rfl⟩
  by_cases hz : (1 : Int) ≤ s.size ∧ (s.size : Int) ≤ 8
  · rw [tb_true hz]
    have h0 : 0 < s.size := by omega
    by_cases hl : 97 ≤ (s[0].toNat : Int)
    · by_cases hu : (s[0].toNat : Int) ≤ 122
      · go_wp2
        go_loop [3] (fun i => ∃ k : Nat, k ≤ s.size ∧ i = .int .i64 k ∧ ∀ j (h : j < s.size), j < k → NameAt s j h) (fun i => s.size - (intOf i).toNat)
        case atStart => exact ⟨0, Nat.zero_le _, rfl, fun j h hj => by omega⟩
        case round =>
          obtain ⟨k, hk, rfl, ha⟩ := hrel
          have HA := hide ha
          have HL := hide hl
          have HU := hide hu
          clear ha hl hu
          by_cases hlt : k < s.size
          · go_wp2
            all_goals first
              | (go_ret; exact ⟨ret_bool (by rw [tb_false (fun h => by have := h.2.2 k hlt; unfold NameAt at this; (try simp only [beq_iff_eq, beq_eq_false_iff_ne, Bool.not_eq_true', Bool.not_eq_false', decide_eq_true_eq, decide_eq_false_iff_not] at *); omega)]), rfl⟩)
              | (go_round
                 case rel => exact ⟨k + 1, by omega, by go_num, fun j h hj => by
                   by_cases e : j < k
                   · exact HA.out j h e
                   · obtain rfl : j = k := by omega
                     unfold NameAt
                     by_cases e0 : j = 0
                     · subst e0
                       exact .inl ⟨HL.out, HU.out⟩
                     · (try simp only [beq_iff_eq, beq_eq_false_iff_ne, Bool.not_eq_true', Bool.not_eq_false', decide_eq_true_eq, decide_eq_false_iff_not] at *); omega⟩
                 case measure => simp [intOf]; omega)
          · obtain rfl : k = s.size := by omega
            go_wp2
            go_ret
            exact ⟨ret_bool (by rw [tb_true ⟨by omega, by omega, fun k h => HA.out k h h⟩]), rfl⟩
      · go_wp2
        go_ret
        exact ⟨ret_bool (by rw [tb_false (fun h => by obtain ⟨_, _⟩ := nameOk_first h; omega)]), rfl⟩
    · go_wp2
      go_ret
      exact ⟨ret_bool (by rw [tb_false (fun h => by obtain ⟨_, _⟩ := nameOk_first h; omega)]), rfl⟩
  · rw [tb_false hz]
    go_wp2
    go_ret
    exact ⟨ret_bool (by rw [tb_false (fun h => by have := h.1; have := h.2.1; omega)]), rfl⟩

theorem l6NameOk_yes (s : ByteArray) (w : World) (hs : s.size ≤ maxLen) (h : NameOk s) :
    Calls Tryz.prog 74 #[.string s] w fun e w' => e = .returned (.bool true) ∧ w' = w :=
  (l6NameOk_any s w hs).mono fun e w' ⟨he, hw⟩ => ⟨by rw [he, tb_true h], hw.symm⟩
theorem l6NameOk_no (s : ByteArray) (w : World) (hs : s.size ≤ maxLen) (h : ¬ NameOk s) :
    Calls Tryz.prog 74 #[.string s] w fun e w' => e = .returned (.bool false) ∧ w' = w :=
  (l6NameOk_any s w hs).mono fun e w' ⟨he, hw⟩ => ⟨by rw [he, tb_false h], hw.symm⟩

end Go.Proofs.YtddjgbhkfdpffaaGreatDoor
set_option linter.unusedVariables false
set_option linter.unusedSimpArgs false
namespace Go.Proofs.YtddjgbhkfdpffaaGreatDoor
open Go.ChangeShapes Go.WideShapes Go.ChangeAt Go.RowKit



def EqLogPart (x : LogPart) : Prop := ∀ (us vs : List Value) (fp fq : List Nat) (w : World), OwC w x.cells us fp → OwC w x.cells vs fq → Lt fp w.heap.size → Lt fq w.heap.size →
  Calls Tryz.prog 133 #[.agg us.toArray, .agg vs.toArray] w fun e w' => e = .returned (.bool true) ∧ Below w.heap.size w w'
set_option maxRecDepth 100000 in
theorem eqLogPart_of (x : LogPart) : EqLogPart x := by
  intro us vs fp fq w ho ho' hf hf'
  obtain ⟨rfl, w0, w1, w2, w3, rfl⟩ := ho.oLogPart
  obtain ⟨rfl, bw0, bw1, bw2, bw3, rfl⟩ := ho'.oLogPart
  have hB0 : Below w.heap.size w ((w.alloc (.cells #[.int .i64 x.num, .int .i64 x.first, .int .i64 x.next, .int .i64 x.size] 75)).alloc (.cells #[.int .i64 x.num, .int .i64 x.first, .int .i64 x.next, .int .i64 x.size] 75)) := ((Below.refl _ _).alloc (Nat.le_refl _) _).alloc (by simp) _
  have R0 : Row ((w.alloc (.cells #[.int .i64 x.num, .int .i64 x.first, .int .i64 x.next, .int .i64 x.size] 75)).alloc (.cells #[.int .i64 x.num, .int .i64 x.first, .int .i64 x.next, .int .i64 x.size] 75)) w.heap.size 75 [.int .i64 x.num, .int .i64 x.first, .int .i64 x.next, .int .i64 x.size] := (Row.new w _ _).alloc _
  have S0 : Row ((w.alloc (.cells #[.int .i64 x.num, .int .i64 x.first, .int .i64 x.next, .int .i64 x.size] 75)).alloc (.cells #[.int .i64 x.num, .int .i64 x.first, .int .i64 x.next, .int .i64 x.size] 75)) (w.heap.size + 1) 75 [.int .i64 x.num, .int .i64 x.first, .int .i64 x.next, .int .i64 x.size] := by
    have h := Row.new (w.alloc (.cells #[.int .i64 x.num, .int .i64 x.first, .int .i64 x.next, .int .i64 x.size] 75)) 75 [.int .i64 x.num, .int .i64 x.first, .int .i64 x.next, .int .i64 x.size]
    simpa using h
  clear ho ho'
  go_enter Tryz.func133, Tryz.ntmps133
  go_wp2
  go_ret
  exact ⟨rfl, hB0⟩
theorem eqLogPart_any (x : LogPart) : EqLogPart x := eqLogPart_of x
def EqLogPartS (l : List LogPart) : Prop := ∀ (A A' : Option Addr) (n n' c c' : Nat) (fp fq : List Nat) (w : World), Ow w (.s 4 l.length (l.flatMap LogPart.cells)) (.slice A n c) fp → Ow w (.s 4 l.length (l.flatMap LogPart.cells)) (.slice A' n' c') fq → Lt fp w.heap.size → Lt fq w.heap.size →
  Calls Tryz.prog 95 #[.slice A n c, .slice A' n' c'] w fun e w' => e = .returned (.bool true) ∧ Below w.heap.size w w'
set_option maxRecDepth 100000 in
theorem eqLogPartS_of (l : List LogPart) (ih : ∀ x ∈ l, EqLogPart x) : EqLogPartS l := by
  intro A A' n n' c c' fp fq w h h' hf hf'
  obtain ⟨rfl, hc, hm⟩ := h.nlen
  obtain ⟨rfl, hc', hm'⟩ := h'.nlen
  unfold maxLen at hm hm'
  go_enter Tryz.func95, Tryz.ntmps95
  go_wp2
  go_loopw [5] (fun i wr => (∃ k : Nat, k ≤ l.length ∧ i = .int .i64 k) ∧ Below w.heap.size w wr) (fun i _ => l.length - (intOf i).toNat)
  case atStart => exact ⟨⟨0, Nat.zero_le _, rfl⟩, Below.refl _ _⟩
  case round =>
    obtain ⟨⟨k, hk, rfl⟩, hb⟩ := hrel
    by_cases hlt : k < l.length
    · obtain ⟨g, off, vs, fi, rfl, hg, hfi, hvl, hcs, hov⟩ := (h.below hb hf).elem LogPart.cells_len hlt
      obtain ⟨g', off', vs', fi', rfl, hg', hfi', hvl', hcs', hov'⟩ := (h'.below hb hf').elem LogPart.cells_len hlt
      have HO := hide hov
      have HO' := hide hov'
      obtain ⟨rfl, w0, w1, w2, w3, rfl⟩ := hov.oLogPart
      obtain ⟨rfl, bw0, bw1, bw2, bw3, rfl⟩ := hov'.oLogPart
      have p0 := hcs 0 _ rfl
      have q0 := hcs' 0 _ rfl
      have p1 := hcs 1 _ rfl
      have q1 := hcs' 1 _ rfl
      have p2 := hcs 2 _ rfl
      have q2 := hcs' 2 _ rfl
      have p3 := hcs 3 _ rfl
      have q3 := hcs' 3 _ rfl
      simp only [Nat.add_zero] at p0 q0
      have HC := hide (ih _ (List.getElem_mem hlt))
      clear hcs hcs' hov hov'
      generalize l[k] = x at *
      go_wp2_with fail
      go_still_tail 8, (by kernel_rfl)
      change wpList _ _ _ _ _ wr.drew
      go_wp2_with fail
      refine (HC.out _ _ _ _ _ (HO.out.drewN 1) (HO'.out.drewN 1) (hf.sub hfi |>.mono hb.size) (hf'.sub hfi' |>.mono hb.size)).mono ?_
      rintro e w1 ⟨rfl, hb1⟩
      go_wp2
      go_roundw
      case rel => exact ⟨⟨k + 1, by omega, by go_num⟩, (below_drewN hb 1).trans (hb1.mono hb.size)⟩
      case measure => simp [intOf]; omega
    · obtain rfl : k = l.length := by omega
      go_wp2
      go_ret
      exact ⟨rfl, hb⟩

theorem eqLogPartS_any (l : List LogPart) : EqLogPartS l := eqLogPartS_of l fun x _ => eqLogPart_any x

end Go.Proofs.YtddjgbhkfdpffaaGreatDoor
set_option linter.unusedVariables false
set_option linter.unusedSimpArgs false
namespace Go.Proofs.YtddjgbhkfdpffaaGreatDoor
open Go.ChangeShapes Go.WideShapes Go.ChangeAt Go.RowKit



def EqLogPlan (x : LogPlan) : Prop := ∀ (us vs : List Value) (fp fq : List Nat) (w : World), OwC w x.cells us fp → OwC w x.cells vs fq → Lt fp w.heap.size → Lt fq w.heap.size →
  Calls Tryz.prog 41 #[.agg us.toArray, .agg vs.toArray] w fun e w' => e = .returned (.bool true) ∧ Below w.heap.size w w'
set_option maxRecDepth 100000 in
theorem eqLogPlan_of (x : LogPlan) : EqLogPlan x := by
  intro us vs fp fq w ho ho' hf hf'
  obtain ⟨A1, c1, f1, rfl, o1, w1, w2, rfl⟩ := ho.oLogPlan
  obtain ⟨bA1, bc1, bf1, rfl, bo1, bw1, bw2, rfl⟩ := ho'.oLogPlan
  have l1 := hf
  have k1 := hf'
  have hB0 : Below w.heap.size w ((w.alloc (.cells #[.slice A1 x.parts.length c1, .int .i64 x.open_, .int .i64 x.first] 30)).alloc (.cells #[.slice bA1 x.parts.length bc1, .int .i64 x.open_, .int .i64 x.first] 30)) := ((Below.refl _ _).alloc (Nat.le_refl _) _).alloc (by simp) _
  have R0 : Row ((w.alloc (.cells #[.slice A1 x.parts.length c1, .int .i64 x.open_, .int .i64 x.first] 30)).alloc (.cells #[.slice bA1 x.parts.length bc1, .int .i64 x.open_, .int .i64 x.first] 30)) w.heap.size 30 [.slice A1 x.parts.length c1, .int .i64 x.open_, .int .i64 x.first] := (Row.new w _ _).alloc _
  have S0 : Row ((w.alloc (.cells #[.slice A1 x.parts.length c1, .int .i64 x.open_, .int .i64 x.first] 30)).alloc (.cells #[.slice bA1 x.parts.length bc1, .int .i64 x.open_, .int .i64 x.first] 30)) (w.heap.size + 1) 30 [.slice bA1 x.parts.length bc1, .int .i64 x.open_, .int .i64 x.first] := by
    have h := Row.new (w.alloc (.cells #[.slice A1 x.parts.length c1, .int .i64 x.open_, .int .i64 x.first] 30)) 30 [.slice bA1 x.parts.length bc1, .int .i64 x.open_, .int .i64 x.first]
    simpa using h
  clear ho ho'
  go_enter Tryz.func41, Tryz.ntmps41
  go_wp2_with fail
  refine (eqLogPartS_any _ _ _ _ _ _ _ _ _ _ (o1.below hB0 l1) (bo1.below hB0 k1) (l1.up hB0) (k1.up hB0)).mono ?_
  rintro e w1_ ⟨rfl, hb1⟩
  have hB1 := hB0.trans (hb1.mono hB0.size)
  have R1 := R0.below hb1 R0.lt
  have S1 := S0.below hb1 S0.lt
  have c1_1 := R1.cell 1
  have d1_1 := S1.cell 1
  have c1_2 := R1.cell 2
  have d1_2 := S1.cell 2
  go_wp2
  go_ret
  exact ⟨rfl, hB1⟩
theorem eqLogPlan_any (x : LogPlan) : EqLogPlan x := eqLogPlan_of x

end Go.Proofs.YtddjgbhkfdpffaaGreatDoor
