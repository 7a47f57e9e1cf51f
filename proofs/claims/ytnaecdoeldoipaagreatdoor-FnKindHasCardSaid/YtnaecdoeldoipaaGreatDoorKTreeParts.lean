/-
  Trees that are ok: the program's look and the reference's l1Parts answer alike. Trees that are ok, but for their kids: the program. Trees that are ok: what the program's look answers. Trees that are ok, but for their kids: the reference. Trees that are ok: what the reference's l1Parts answers.
-/
import Derived.Test.YtnaecdoeldoipaaGreatDoorKDTree
import Derived.Test.YtnaecdoeldoipaaGreatDoorKKid
set_option linter.unusedVariables false
set_option linter.unusedSimpArgs false
namespace Go.Proofs.YtnaecdoeldoipaaGreatDoor
open Go.ChangeShapes Go.WideShapes Go.ChangeAt Go.RowKit

def TextAt (s : ByteArray) (k : Nat) (h : k < s.size) : Prop := 32 ≤ (s[k].toNat : Int) ∧ (s[k].toNat : Int) ≤ 126 ∧ (s[k].toNat : Int) ≠ 34
def TextOk (s : ByteArray) : Prop := s.size ≤ 60 ∧ ∀ k (h : k < s.size), TextAt s k h

set_option maxRecDepth 100000 in
theorem isText_any (s : ByteArray) (w : World) (hs : s.size ≤ maxLen) :
    Calls Tryz.prog 136 #[.string s] w fun e w' => e = .returned (.bool (tb (TextOk s))) ∧ w = w' := by
  unfold maxLen at hs
  go_enter Tryz.func136, Tryz.ntmps136
  go_wp2
  go_loop [6] (fun i => ∃ k : Nat, k ≤ s.size ∧ i = .int .i64 k ∧ ∀ j (h : j < s.size), j < k → TextAt s j h) (fun i => s.size - (intOf i).toNat)
  case atStart => exact ⟨0, Nat.zero_le _, rfl, fun j h hj => by omega⟩
  case round =>
    obtain ⟨k, hk, rfl, ha⟩ := hrel
    have HA := hide ha
    clear ha
    by_cases hlt : k < s.size
    · go_wp2
      all_goals first
        | (go_ret; exact ⟨ret_bool (by rw [tb_false (fun h => by have := h.2 k hlt; unfold TextAt at this; (try simp only [beq_iff_eq, beq_eq_false_iff_ne, Bool.not_eq_true', Bool.not_eq_false', decide_eq_true_eq, decide_eq_false_iff_not] at *); omega)]), rfl⟩)
        | (go_round
           case rel => exact ⟨k + 1, by omega, by go_num, fun j h hj => by
             by_cases e : j < k
             · exact HA.out j h e
             · obtain rfl : j = k := by omega
               unfold TextAt
               (try simp only [beq_iff_eq, beq_eq_false_iff_ne, Bool.not_eq_true', Bool.not_eq_false', decide_eq_true_eq, decide_eq_false_iff_not] at *); omega⟩
           case measure => simp [intOf]; omega)
    · obtain rfl : k = s.size := by omega
      have HT := hide (show TextOk s ↔ (s.size : Int) ≤ 60 from ⟨fun h => by have := h.1; omega, fun h => ⟨by omega, fun k h => HA.out k h h⟩⟩)
      go_wp2
      go_ret
      refine ⟨ret_bool ?_, rfl⟩
      by_cases h : (s.size : Int) ≤ 60
      · rw [tb_true (HT.out.2 h)]; simpa using h
      · rw [tb_false (fun h' => h (HT.out.1 h'))]; simpa using h

set_option maxRecDepth 100000 in
theorem l1TextOk_any (s : ByteArray) (w : World) (hs : s.size ≤ maxLen) :
    Calls Tryz.prog 130 #[.string s] w fun e w' => e = .returned (.bool (tb (TextOk s))) ∧ w = w' := by
  unfold maxLen at hs
  by_cases h60 : (s.size : Int) ≤ 60
  · go_enter Tryz.func130, Tryz.ntmps130
    go_wp2
    go_loop [3] (fun i => ∃ k : Nat, k ≤ s.size ∧ i = .int .i64 k ∧ ∀ j (h : j < s.size), j < k → TextAt s j h) (fun i => s.size - (intOf i).toNat)
    case atStart => exact ⟨0, Nat.zero_le _, rfl, fun j h hj => by omega⟩
    case round =>
      obtain ⟨k, hk, rfl, ha⟩ := hrel
      have HA := hide ha
      clear ha
      by_cases hlt : k < s.size
      · go_wp2
        all_goals first
          | (go_ret; exact ⟨ret_bool (by rw [tb_false (fun h => by have := h.2 k hlt; unfold TextAt at this; (try simp only [beq_iff_eq, beq_eq_false_iff_ne, Bool.not_eq_true', Bool.not_eq_false', decide_eq_true_eq, decide_eq_false_iff_not] at *); omega)]), rfl⟩)
          | (go_round
             case rel => exact ⟨k + 1, by omega, by go_num, fun j h hj => by
               by_cases e : j < k
               · exact HA.out j h e
               · obtain rfl : j = k := by omega
                 unfold TextAt
                 (try simp only [beq_iff_eq, beq_eq_false_iff_ne, Bool.not_eq_true', Bool.not_eq_false', decide_eq_true_eq, decide_eq_false_iff_not] at *); omega⟩
             case measure => simp [intOf]; omega)
      · obtain rfl : k = s.size := by omega
        go_wp2
        go_ret
        exact ⟨ret_bool (by rw [tb_true ⟨by omega, fun k h => HA.out k h h⟩]), rfl⟩
  · go_enter Tryz.func130, Tryz.ntmps130
    go_wp2
    go_ret
    exact ⟨ret_bool (by rw [tb_false (fun h => by have := h.1; omega)]), rfl⟩

theorem isNum_any (n : Int) (w : World) :
    Calls Tryz.prog 135 #[.int .i64 n] w fun e w' => e = .returned (.bool (tb (-999999999 ≤ n ∧ n ≤ 999999999))) ∧ w = w' := by
  go_enter Tryz.func135, Tryz.ntmps135
  go_wp2_with fail
  refine (inRange_any _ _ _ _).mono ?_
  rintro e w' ⟨rfl, rfl⟩
  go_wp2
  go_ret
  exact ⟨rfl, rfl⟩

theorem tb_iff {p : Prop} : tb p = true ↔ p := by
  refine ⟨fun h => ?_, tb_true⟩
  by_cases hp : p
  · exact hp
  · rw [tb_false hp] at h
    cases h
theorem tb_eq {p : Prop} {b : Bool} (h : p ↔ b = true) : b = tb p := by
  cases b with
  | true => rw [tb_true (h.2 rfl)]
  | false => rw [tb_false (fun hp => by cases h.1 hp)]


def Tree.shape (t : Tree) : Prop :=
  (t.sort = 1 ∧ (-999999999 ≤ t.num ∧ t.num ≤ 999999999) ∧ t.text.toList = [] ∧ t.names.length = 0 ∧ t.kids.length = 0) ∨
  (t.sort = 2 ∧ t.num = 0 ∧ TextOk t.text ∧ t.names.length = 0 ∧ t.kids.length = 0) ∨
  (t.sort = 3 ∧ (0 ≤ t.num ∧ t.num ≤ 1) ∧ t.text.toList = [] ∧ t.names.length = 0 ∧ t.kids.length = 0) ∨
  (t.sort = 4 ∧ t.num = 0 ∧ t.text.toList = [] ∧ t.names.length = 0 ∧ t.kids.length ≤ 20) ∨
  (t.sort = 5 ∧ t.num = 0 ∧ t.text.toList = [] ∧ NamesOk t.names ∧ t.names.length = t.kids.length) ∨
  (t.sort = 6 ∧ t.num = 0 ∧ t.text.toList = [] ∧ t.names.length = 0 ∧ t.kids.length ≤ 1)

end Go.Proofs.YtnaecdoeldoipaaGreatDoor
set_option linter.unusedVariables false
set_option linter.unusedSimpArgs false
namespace Go.Proofs.YtnaecdoeldoipaaGreatDoor
open Go.ChangeShapes Go.WideShapes Go.ChangeAt Go.RowKit
set_option maxRecDepth 100000 in
set_option maxHeartbeats 1000000 in
theorem treeShapeOk_1 (n : Int) (x : ByteArray) (ns : List ByteArray) (kl : Nat) (A1 A2 : Option Addr) (c1 c2 : Nat) (f1 : List Nat) (w : World) (hx : x.size ≤ maxLen) (hnl : ns.length ≤ 1048576) (hkl : kl ≤ 1048576) (o1 : Ow w (.s 1 ns.length (ns.flatMap strC)) (.slice A1 ns.length c1) f1) (hf : Lt f1 w.heap.size) :
    Calls Tryz.prog 97 #[.agg #[.int .i64 1, .int .i64 n, .string x, .slice A1 ns.length c1, .slice A2 kl c2]] w fun e w' => e = .returned (.bool (tb ((-999999999 ≤ n ∧ n ≤ 999999999) ∧ x.toList = [] ∧ ns.length = 0 ∧ kl = 0))) ∧ Below w.heap.size w w' := by
  have hw : Below w.heap.size w (w.alloc (.cells #[.int .i64 1, .int .i64 n, .string x, .slice A1 ns.length c1, .slice A2 kl c2] 26)) := (Below.refl _ _).alloc (Nat.le_refl _) _
  have O1 := hide (o1.below hw hf)
  clear o1
  go_enter Tryz.func97, Tryz.ntmps97
  go_wp2_with fail
  refine (isNum_any _ _).mono ?_
  rintro e w' ⟨rfl, rfl⟩
  go_wp2
  all_goals
    go_ret
    refine ⟨ret_bool (tb_eq ?_), (Below.refl _ _).alloc (Nat.le_refl _) _⟩
    grind [tb_iff]

set_option maxRecDepth 100000 in
set_option maxHeartbeats 1000000 in
theorem treeShapeOk_2 (n : Int) (x : ByteArray) (ns : List ByteArray) (kl : Nat) (A1 A2 : Option Addr) (c1 c2 : Nat) (f1 : List Nat) (w : World) (hx : x.size ≤ maxLen) (hnl : ns.length ≤ 1048576) (hkl : kl ≤ 1048576) (o1 : Ow w (.s 1 ns.length (ns.flatMap strC)) (.slice A1 ns.length c1) f1) (hf : Lt f1 w.heap.size) :
    Calls Tryz.prog 97 #[.agg #[.int .i64 2, .int .i64 n, .string x, .slice A1 ns.length c1, .slice A2 kl c2]] w fun e w' => e = .returned (.bool (tb (n = 0 ∧ TextOk x ∧ ns.length = 0 ∧ kl = 0))) ∧ Below w.heap.size w w' := by
  have hw : Below w.heap.size w (w.alloc (.cells #[.int .i64 2, .int .i64 n, .string x, .slice A1 ns.length c1, .slice A2 kl c2] 26)) := (Below.refl _ _).alloc (Nat.le_refl _) _
  have O1 := hide (o1.below hw hf)
  clear o1
  by_cases h0 : n = 0
  · subst h0
    go_enter Tryz.func97, Tryz.ntmps97
    go_wp2_with fail
    refine (isText_any _ _ hx).mono ?_
    rintro e w' ⟨rfl, rfl⟩
    go_wp2
    all_goals
      go_ret
      refine ⟨ret_bool (tb_eq ?_), (Below.refl _ _).alloc (Nat.le_refl _) _⟩
      grind [tb_iff]
  · have hb := bne_f h0
    go_enter Tryz.func97, Tryz.ntmps97
    go_wp2
    all_goals
      go_ret
      refine ⟨ret_bool (tb_eq ?_), (Below.refl _ _).alloc (Nat.le_refl _) _⟩
      grind [tb_iff]

set_option maxRecDepth 100000 in
set_option maxHeartbeats 1000000 in
theorem treeShapeOk_3 (n : Int) (x : ByteArray) (ns : List ByteArray) (kl : Nat) (A1 A2 : Option Addr) (c1 c2 : Nat) (f1 : List Nat) (w : World) (hx : x.size ≤ maxLen) (hnl : ns.length ≤ 1048576) (hkl : kl ≤ 1048576) (o1 : Ow w (.s 1 ns.length (ns.flatMap strC)) (.slice A1 ns.length c1) f1) (hf : Lt f1 w.heap.size) :
    Calls Tryz.prog 97 #[.agg #[.int .i64 3, .int .i64 n, .string x, .slice A1 ns.length c1, .slice A2 kl c2]] w fun e w' => e = .returned (.bool (tb ((0 ≤ n ∧ n ≤ 1) ∧ x.toList = [] ∧ ns.length = 0 ∧ kl = 0))) ∧ Below w.heap.size w w' := by
  have hw : Below w.heap.size w (w.alloc (.cells #[.int .i64 3, .int .i64 n, .string x, .slice A1 ns.length c1, .slice A2 kl c2] 26)) := (Below.refl _ _).alloc (Nat.le_refl _) _
  have O1 := hide (o1.below hw hf)
  clear o1
  go_enter Tryz.func97, Tryz.ntmps97
  go_wp2_with fail
  refine (inRange_any _ _ _ _).mono ?_
  rintro e w' ⟨rfl, rfl⟩
  go_wp2
  all_goals
    go_ret
    refine ⟨ret_bool (tb_eq ?_), (Below.refl _ _).alloc (Nat.le_refl _) _⟩
    grind [tb_iff]

set_option maxRecDepth 100000 in
set_option maxHeartbeats 1000000 in
theorem treeShapeOk_4 (n : Int) (x : ByteArray) (ns : List ByteArray) (kl : Nat) (A1 A2 : Option Addr) (c1 c2 : Nat) (f1 : List Nat) (w : World) (hx : x.size ≤ maxLen) (hnl : ns.length ≤ 1048576) (hkl : kl ≤ 1048576) (o1 : Ow w (.s 1 ns.length (ns.flatMap strC)) (.slice A1 ns.length c1) f1) (hf : Lt f1 w.heap.size) :
    Calls Tryz.prog 97 #[.agg #[.int .i64 4, .int .i64 n, .string x, .slice A1 ns.length c1, .slice A2 kl c2]] w fun e w' => e = .returned (.bool (tb (n = 0 ∧ x.toList = [] ∧ ns.length = 0 ∧ kl ≤ 20))) ∧ Below w.heap.size w w' := by
  have hw : Below w.heap.size w (w.alloc (.cells #[.int .i64 4, .int .i64 n, .string x, .slice A1 ns.length c1, .slice A2 kl c2] 26)) := (Below.refl _ _).alloc (Nat.le_refl _) _
  have O1 := hide (o1.below hw hf)
  clear o1
  go_enter Tryz.func97, Tryz.ntmps97
  go_wp2
  all_goals
    go_ret
    refine ⟨ret_bool (tb_eq ?_), (Below.refl _ _).alloc (Nat.le_refl _) _⟩
    grind [tb_iff]

set_option maxRecDepth 100000 in
set_option maxHeartbeats 1000000 in
theorem treeShapeOk_5 (n : Int) (x : ByteArray) (ns : List ByteArray) (kl : Nat) (A1 A2 : Option Addr) (c1 c2 : Nat) (f1 : List Nat) (w : World) (hx : x.size ≤ maxLen) (hnl : ns.length ≤ 1048576) (hkl : kl ≤ 1048576) (o1 : Ow w (.s 1 ns.length (ns.flatMap strC)) (.slice A1 ns.length c1) f1) (hf : Lt f1 w.heap.size) :
    Calls Tryz.prog 97 #[.agg #[.int .i64 5, .int .i64 n, .string x, .slice A1 ns.length c1, .slice A2 kl c2]] w fun e w' => e = .returned (.bool (tb (n = 0 ∧ x.toList = [] ∧ NamesOk ns ∧ ns.length = kl))) ∧ Below w.heap.size w w' := by
  have hw : Below w.heap.size w (w.alloc (.cells #[.int .i64 5, .int .i64 n, .string x, .slice A1 ns.length c1, .slice A2 kl c2] 26)) := (Below.refl _ _).alloc (Nat.le_refl _) _
  have O1 := hide (o1.below hw hf)
  clear o1
  by_cases h0 : n = 0
  · subst h0
    by_cases he : x.toList = []
    · go_enter Tryz.func97, Tryz.ntmps97
      go_wp2_with fail
      refine (areNames_any _ _ _ _ _ _ O1.out).mono ?_
      rintro e w' ⟨rfl, rfl⟩
      go_wp2
      all_goals
        go_ret
        refine ⟨ret_bool (tb_eq ?_), (Below.refl _ _).alloc (Nat.le_refl _) _⟩
        grind [tb_iff]
    · go_enter Tryz.func97, Tryz.ntmps97
      go_wp2
      all_goals
        go_ret
        refine ⟨ret_bool (tb_eq ?_), (Below.refl _ _).alloc (Nat.le_refl _) _⟩
        grind [tb_iff]
  · have hb := bne_f h0
    go_enter Tryz.func97, Tryz.ntmps97
    go_wp2
    all_goals
      go_ret
      refine ⟨ret_bool (tb_eq ?_), (Below.refl _ _).alloc (Nat.le_refl _) _⟩
      grind [tb_iff]

set_option maxRecDepth 100000 in
set_option maxHeartbeats 1000000 in
theorem treeShapeOk_6 (n : Int) (x : ByteArray) (ns : List ByteArray) (kl : Nat) (A1 A2 : Option Addr) (c1 c2 : Nat) (f1 : List Nat) (w : World) (hx : x.size ≤ maxLen) (hnl : ns.length ≤ 1048576) (hkl : kl ≤ 1048576) (o1 : Ow w (.s 1 ns.length (ns.flatMap strC)) (.slice A1 ns.length c1) f1) (hf : Lt f1 w.heap.size) :
    Calls Tryz.prog 97 #[.agg #[.int .i64 6, .int .i64 n, .string x, .slice A1 ns.length c1, .slice A2 kl c2]] w fun e w' => e = .returned (.bool (tb (n = 0 ∧ x.toList = [] ∧ ns.length = 0 ∧ kl ≤ 1))) ∧ Below w.heap.size w w' := by
  have hw : Below w.heap.size w (w.alloc (.cells #[.int .i64 6, .int .i64 n, .string x, .slice A1 ns.length c1, .slice A2 kl c2] 26)) := (Below.refl _ _).alloc (Nat.le_refl _) _
  have O1 := hide (o1.below hw hf)
  clear o1
  go_enter Tryz.func97, Tryz.ntmps97
  go_wp2
  all_goals
    go_ret
    refine ⟨ret_bool (tb_eq ?_), (Below.refl _ _).alloc (Nat.le_refl _) _⟩
    grind [tb_iff]

set_option maxRecDepth 100000 in
theorem treeShapeOk_any (t : Tree) (us : List Value) (fp : List Nat) (w : World) (h : OwC w t.cells us fp) (hf : Lt fp w.heap.size) (hbk : t.bulk ≤ 1048576) :
    Calls Tryz.prog 97 #[.agg us.toArray] w fun e w' => e = .returned (.bool (tb t.shape)) ∧ Below w.heap.size w w' := by
  obtain ⟨A1, c1, A2, c2, f1, f2, rfl, w0, w1, w2, o1, o2, rfl⟩ := h.oTree
  rw [Tree.bulk_eq] at hbk; unfold bulkStrs at hbk
  have hnl : t.names.length ≤ 1048576 := by omega
  have hkl : t.kids.length ≤ 1048576 := by omega
  have hp : t.shape ↔ (t.sort = 1 ∧ (-999999999 ≤ t.num ∧ t.num ≤ 999999999) ∧ t.text.toList = [] ∧ t.names.length = 0 ∧ t.kids.length = 0) ∨ (t.sort = 2 ∧ t.num = 0 ∧ TextOk t.text ∧ t.names.length = 0 ∧ t.kids.length = 0) ∨ (t.sort = 3 ∧ (0 ≤ t.num ∧ t.num ≤ 1) ∧ t.text.toList = [] ∧ t.names.length = 0 ∧ t.kids.length = 0) ∨ (t.sort = 4 ∧ t.num = 0 ∧ t.text.toList = [] ∧ t.names.length = 0 ∧ t.kids.length ≤ 20) ∨ (t.sort = 5 ∧ t.num = 0 ∧ t.text.toList = [] ∧ NamesOk t.names ∧ t.names.length = t.kids.length) ∨ (t.sort = 6 ∧ t.num = 0 ∧ t.text.toList = [] ∧ t.names.length = 0 ∧ t.kids.length ≤ 1) := Iff.rfl
  generalize t.sort = s at *
  by_cases e1 : s = 1
  · subst e1
    rw [show t.shape = ((-999999999 ≤ t.num ∧ t.num ≤ 999999999) ∧ t.text.toList = [] ∧ t.names.length = 0 ∧ t.kids.length = 0) from propext (by rw [hp]; simp)]
    exact treeShapeOk_1 t.num t.text t.names t.kids.length A1 A2 c1 c2 f1 w w2 hnl hkl o1 hf.left
  by_cases e2 : s = 2
  · subst e2
    rw [show t.shape = (t.num = 0 ∧ TextOk t.text ∧ t.names.length = 0 ∧ t.kids.length = 0) from propext (by rw [hp]; simp)]
    exact treeShapeOk_2 t.num t.text t.names t.kids.length A1 A2 c1 c2 f1 w w2 hnl hkl o1 hf.left
  by_cases e3 : s = 3
  · subst e3
    rw [show t.shape = ((0 ≤ t.num ∧ t.num ≤ 1) ∧ t.text.toList = [] ∧ t.names.length = 0 ∧ t.kids.length = 0) from propext (by rw [hp]; simp)]
    exact treeShapeOk_3 t.num t.text t.names t.kids.length A1 A2 c1 c2 f1 w w2 hnl hkl o1 hf.left
  by_cases e4 : s = 4
  · subst e4
    rw [show t.shape = (t.num = 0 ∧ t.text.toList = [] ∧ t.names.length = 0 ∧ t.kids.length ≤ 20) from propext (by rw [hp]; simp)]
    exact treeShapeOk_4 t.num t.text t.names t.kids.length A1 A2 c1 c2 f1 w w2 hnl hkl o1 hf.left
  by_cases e5 : s = 5
  · subst e5
    rw [show t.shape = (t.num = 0 ∧ t.text.toList = [] ∧ NamesOk t.names ∧ t.names.length = t.kids.length) from propext (by rw [hp]; simp)]
    exact treeShapeOk_5 t.num t.text t.names t.kids.length A1 A2 c1 c2 f1 w w2 hnl hkl o1 hf.left
  by_cases e6 : s = 6
  · subst e6
    rw [show t.shape = (t.num = 0 ∧ t.text.toList = [] ∧ t.names.length = 0 ∧ t.kids.length ≤ 1) from propext (by rw [hp]; simp)]
    exact treeShapeOk_6 t.num t.text t.names t.kids.length A1 A2 c1 c2 f1 w w2 hnl hkl o1 hf.left
  have b1 := bne_f e1
  have b2 := bne_f e2
  have b3 := bne_f e3
  have b4 := bne_f e4
  have b5 := bne_f e5
  have b6 := bne_f e6
  have HT := hide (tb_false (p := t.shape) (fun h => by have := hp.1 h; omega))
  clear hp o1 o2 h
  go_enter Tryz.func97, Tryz.ntmps97
  go_wp2
  go_ret
  exact ⟨ret_bool HT.out.symm, (Below.refl _ _).alloc (Nat.le_refl _) _⟩

end Go.Proofs.YtnaecdoeldoipaaGreatDoor
set_option linter.unusedVariables false
set_option linter.unusedSimpArgs false
namespace Go.Proofs.YtnaecdoeldoipaaGreatDoor
open Go.ChangeShapes Go.WideShapes Go.ChangeAt Go.RowKit

mutual
def Tree.good : Tree → Nat → Prop
  | .mk s n x ns ks, lv => lv ≤ 6 ∧ (Tree.mk s n x ns ks).shape ∧ Tree.goodS ks (lv + 1)
def Tree.goodS : List Tree → Nat → Prop
  | [], _ => True
  | k :: r, lv => k.good lv ∧ Tree.goodS r lv
end
mutual
def Tree.parts : Tree → Nat
  | .mk _ _ _ _ ks => 1 + Tree.partsS ks
def Tree.partsS : List Tree → Nat
  | [] => 0
  | k :: r => k.parts + Tree.partsS r
end
theorem Tree.good_iff (k : Tree) (lv : Nat) : k.good lv ↔ lv ≤ 6 ∧ k.shape ∧ Tree.goodS k.kids (lv + 1) := by cases k; rfl
theorem Tree.parts_eq (k : Tree) : k.parts = 1 + Tree.partsS k.kids := by cases k; rfl
theorem Tree.goodS_append (a b : List Tree) (lv : Nat) : Tree.goodS (a ++ b) lv ↔ Tree.goodS a lv ∧ Tree.goodS b lv := by
  induction a with
  | nil => simp [Tree.goodS]
  | cons x a ih => simp [Tree.goodS, ih, and_assoc]
theorem Tree.goodS_snoc (l : List Tree) (lv k : Nat) (h : k < l.length) : Tree.goodS (l.take (k + 1)) lv ↔ Tree.goodS (l.take k) lv ∧ l[k].good lv := by
  rw [List.take_succ_eq_append_getElem h, Tree.goodS_append]
  simp [Tree.goodS]
theorem Tree.goodS_at {l : List Tree} {lv k : Nat} (hg : Tree.goodS l lv) (h : k < l.length) : l[k].good lv := by
  rw [← List.take_append_drop (k + 1) l, Tree.goodS_append, Tree.goodS_snoc l lv k h] at hg
  exact hg.1.2
theorem Tree.partsS_append (a b : List Tree) : Tree.partsS (a ++ b) = Tree.partsS a + Tree.partsS b := by
  induction a with
  | nil => simp [Tree.partsS]
  | cons x a ih => simp [Tree.partsS, ih]; omega
theorem Tree.partsS_snoc (l : List Tree) (k : Nat) (h : k < l.length) : Tree.partsS (l.take (k + 1)) = Tree.partsS (l.take k) + l[k].parts := by
  rw [List.take_succ_eq_append_getElem h, Tree.partsS_append]
  simp [Tree.partsS]
theorem Tree.partsS_le (l : List Tree) (k : Nat) : Tree.partsS (l.take k) ≤ Tree.partsS l := by
  conv => rhs; rw [← List.take_append_drop k l, Tree.partsS_append]
  omega

/-- so many parts are left -/
def Tree.fits (k : Tree) (lv : Nat) (p : Int) : Prop := k.good lv ∧ p + k.parts ≤ 120

def LookTree (k : Tree) : Prop := ∀ (us : List Value) (fp : List Nat) (lv : Nat) (z p : Int) (pb : Nat) (w : World), z = lv → OwC w k.cells us fp → Lt fp w.heap.size → k.bulk ≤ 1048576 → 1 ≤ lv → lv ≤ 7 → 0 ≤ p → p ≤ 120 →
  w.cell? ⟨pb, 0, none⟩ = some (.int .i64 p) → w.frozen? ⟨pb, 0, none⟩ = false → pb ∉ fp →
  Calls Tryz.prog 46 #[.agg us.toArray, .int .i64 z, .pointer (some ⟨pb, 0, none⟩)] w fun e w' => e = .returned (.bool (tb (k.fits lv p))) ∧
    w'.frozen? ⟨pb, 0, none⟩ = false ∧ (k.fits lv p → w'.cell? ⟨pb, 0, none⟩ = some (.int .i64 (p + k.parts))) ∧ w.grownBy w' (some pb)

set_option maxRecDepth 100000 in
theorem lookTree_of (k : Tree) (ih : ∀ x ∈ k.kids, LookTree x) : LookTree k := by
  intro us fp lv z p pb w hz ho hf hbk hl0 hl1 hp0 hp1 hcell hfz hpb
  obtain ⟨A1, c1, A2, c2, f1, f2, rfl, w0, wn, wt, o1, o2, rfl⟩ := ho.oTree
  have hpl := cell_lt hcell
  subst hz
  have hpn : pb < w.heap.size := hpl
  have hne1 : pb ≠ w.heap.size := by omega
  have g0 : w.grownBy (w.setCell ⟨pb, 0, none⟩ (.int .i64 (p + 1))) (some pb) := only_setCell (World.grownBy.refl w _) (.inl rfl) _
  have g1 := only_alloc g0 (.cells #[.int .i64 k.sort, .int .i64 k.num, .string k.text, .slice A1 k.names.length c1, .slice A2 k.kids.length c2] 26)
  by_cases h6 : lv ≤ 6
  · by_cases hp : p + 1 ≤ 120
    · have hkb := k.bulk_eq; unfold bulkStrs at hkb
      have hkl : k.kids.length ≤ 1048576 := by omega
      have HB := hide hkb
      clear hkb
      have hcw1 := ho.grown g1 hf hpb
      go_enter Tryz.func46, Tryz.ntmps46
      go_wp2_with fail
      refine (treeShapeOk_any k _ _ _ hcw1 ((hf.mono (by simp [World.setCell]))) hbk).mono ?_
      rintro e w1 ⟨rfl, hb1⟩
      have g2 := only_below g1 hb1
      obtain ⟨hc1, hf1⟩ := bcell hb1
      have z1 : w.heap.size < w1.heap.size := by have := hb1.size; simp [World.setCell] at this; omega
      have z1b : pb < w1.heap.size := by omega
      by_cases hs : k.shape
      · rw [tb_true hs]
        have HO2 := hide o2
        have HI := hide ih
        clear o1 o2 ho hcw1 ih
        have hx1 : w1.cell? ⟨pb, 0, none⟩ = some (.int .i64 (p + 1)) := by
          rw [hb1.cell (p := ⟨pb, 0, none⟩) (by simp [World.setCell]; omega), World.cell?_alloc_lt _ _ _ (by simp [World.setCell]; omega)]
          exact World.cell?_setCell_same w _ _ hcell
        have hx2 : w1.frozen? ⟨pb, 0, none⟩ = false := by rw [hf1 pb 0 (by simp [World.setCell]; omega)]; go_simp
        go_wp2
        go_loopw [30] (fun i wr => ∃ j : Nat, j ≤ k.kids.length ∧ i = .int .i64 j ∧ Tree.goodS (k.kids.take j) (lv + 1) ∧ p + 1 + Tree.partsS (k.kids.take j) ≤ 120 ∧ wr.cell? ⟨pb, 0, none⟩ = some (.int .i64 (p + 1 + Tree.partsS (k.kids.take j))) ∧ wr.frozen? ⟨pb, 0, none⟩ = false ∧ w.grownBy wr (some pb)) (fun i _ => k.kids.length - (intOf i).toNat)
        case atStart => exact ⟨0, Nat.zero_le _, rfl, by simp [Tree.goodS], by simp [Tree.partsS]; omega, by simpa [Tree.partsS] using hx1, hx2, g2⟩
        case round =>
          obtain ⟨j, hj, rfl, hgood, hle, hcj, hfj, hgr⟩ := hrel
          have HG := hide hgood
          have HR := hide hgr
          clear hgood hgr
          by_cases hlt : j < k.kids.length
          · obtain ⟨g, off, vs, fi, rfl, hg, hfi, hvl, hcs, hov⟩ := (HO2.out.grown HR.out hf.right (fun h => hpb (List.mem_append_right _ h))).elem Tree.cells_len hlt
            have hov' := hov
            obtain ⟨B1, d1, B2, d2, q1, q2, rfl, v0, vn, vt, x1, x2, rfl⟩ := hov.oTree
            have p0 := hcs 0 _ rfl
            have p1 := hcs 1 _ rfl
            have p2 := hcs 2 _ rfl
            have p3 := hcs 3 _ rfl
            have p4 := hcs 4 _ rfl
            simp only [Nat.add_zero] at p0
            have hfq : Lt (q1 ++ q2) wr.heap.size := ((hf.right).mono HR.out.size).sub hfi
            have hpq : pb ∉ q1 ++ q2 := fun h => hpb (List.mem_append_right _ (hfi h))
            have HC := hide (HI.out _ (List.getElem_mem hlt))
            have hsn := hide (Tree.goodS_snoc k.kids (lv + 1) j hlt)
            have hps := hide (Tree.partsS_snoc k.kids j hlt)
            have hpl' := Tree.partsS_le k.kids (j + 1)
            have hbl : k.kids[j].bulk ≤ 1048576 := by
              have h1 := Tree.bulkS_snoc k.kids j hlt
              have h2 := Tree.bulkS_le k.kids (j + 1)
              have h3 := HB.out
              omega
            have HO := hide (hov'.alloc hfq (.cells #[.int .i64 k.kids[j].sort, .int .i64 k.kids[j].num, .string k.kids[j].text, .slice B1 k.kids[j].names.length d1, .slice B2 k.kids[j].kids.length d2] 26))
            have hat := hide (fun (h : Tree.goodS k.kids (lv + 1)) => Tree.goodS_at h hlt)
            have hplr := cell_lt hcj
            clear hov hov' x1 x2 hcs
            generalize k.kids[j] = x at *
            generalize Tree.partsS (k.kids.take j) = m at *
            go_wp2_with fail
            refine (HC.out _ _ (lv + 1) _ (p + 1 + m) pb _ (by omega) HO.out (hfq.alloc _) hbl (by omega) (by omega) (by omega) (by omega) (by go_simp) (by go_simp) hpq).mono ?_
            rintro e w2 ⟨rfl, hz2, hcell2, hgr2⟩
            have hw2 := only_trans (only_alloc HR.out _) hgr2
            by_cases hx : x.fits (lv + 1) (p + 1 + m)
            · rw [tb_true hx]
              have hc2 := hcell2 hx
              have HX := hide hx
              clear hcell2 hx
              go_wp2
              go_roundw
              case rel => exact ⟨j + 1, by omega, by go_num, hsn.out.2 ⟨HG.out, HX.out.1⟩, by rw [hps.out]; have := HX.out.2; omega, by rw [hps.out, hc2]; go_num, hz2, hw2⟩
              case measure => simp [intOf]; omega
            · rw [tb_false hx]
              have HT := hide (tb_false (p := k.fits lv p) (fun h => hx ⟨hat.out ((Tree.good_iff _ _).1 h.1).2.2, by have h1 := h.2; have h2 := k.parts_eq; have h3 := hps.out; omega⟩))
              clear hx
              go_wp2
              go_ret
              exact ⟨ret_bool HT.out.symm, hz2, fun h => absurd (tb_true h) (by rw [HT.out]; simp), hw2⟩
          · obtain rfl : j = k.kids.length := by omega
            rw [List.take_length] at *
            have hfit : k.fits lv p := ⟨(Tree.good_iff _ _).2 ⟨h6, hs, HG.out⟩, by have := k.parts_eq; omega⟩
            have HT := hide (tb_true hfit)
            have HP := hide k.parts_eq
            clear hfit
            go_wp2
            go_ret
            exact ⟨ret_bool HT.out.symm, hfj, fun _ => by rw [hcj, HP.out]; go_num, HR.out⟩
      · rw [tb_false hs]
        have HT := hide (tb_false (p := k.fits lv p) (fun h => hs ((Tree.good_iff _ _).1 h.1).2.1))
        have hx2 : w1.frozen? ⟨pb, 0, none⟩ = false := by rw [hf1 pb 0 (by simp [World.setCell]; omega)]; go_simp
        go_wp2
        go_ret
        exact ⟨ret_bool HT.out.symm, hx2, fun h => absurd (tb_true h) (by rw [HT.out]; simp), g2⟩
    · have HT := hide (tb_false (p := k.fits lv p) (fun h => by have h1 := h.2; have h2 := k.parts_eq; omega))
      go_enter Tryz.func46, Tryz.ntmps46
      go_wp2
      go_ret
      exact ⟨ret_bool HT.out.symm, by go_simp, fun h => absurd (tb_true h) (by rw [HT.out]; simp), g1⟩
  · have HT := hide (tb_false (p := k.fits lv p) (fun h => by have h1 := ((Tree.good_iff _ _).1 h.1).1; omega))
    go_enter Tryz.func46, Tryz.ntmps46
    go_wp2
    go_ret
    exact ⟨ret_bool HT.out.symm, by go_simp, fun h => absurd (tb_true h) (by rw [HT.out]; simp), g1⟩

theorem lookTree_any (k : Tree) : LookTree k := Tree.ind lookTree_of k

end Go.Proofs.YtnaecdoeldoipaaGreatDoor
set_option linter.unusedVariables false
set_option linter.unusedSimpArgs false
namespace Go.Proofs.YtnaecdoeldoipaaGreatDoor
open Go.ChangeShapes Go.WideShapes Go.ChangeAt Go.RowKit
set_option maxRecDepth 100000 in
set_option maxHeartbeats 1000000 in
theorem l1Alone_1 (n : Int) (x : ByteArray) (ns : List ByteArray) (kl : Nat) (A1 A2 : Option Addr) (c1 c2 : Nat) (f1 : List Nat) (w : World) (hx : x.size ≤ maxLen) (hnl : ns.length ≤ 1048576) (hkl : kl ≤ 1048576) (o1 : Ow w (.s 1 ns.length (ns.flatMap strC)) (.slice A1 ns.length c1) f1) (hf : Lt f1 w.heap.size) :
    Calls Tryz.prog 94 #[.agg #[.int .i64 1, .int .i64 n, .string x, .slice A1 ns.length c1, .slice A2 kl c2]] w fun e w' => e = .returned (.bool (tb ((-999999999 ≤ n ∧ n ≤ 999999999) ∧ x.toList = [] ∧ ns.length = 0 ∧ kl = 0))) ∧ Below w.heap.size w w' := by
  have hw : Below w.heap.size w (w.alloc (.cells #[.int .i64 1, .int .i64 n, .string x, .slice A1 ns.length c1, .slice A2 kl c2] 26)) := (Below.refl _ _).alloc (Nat.le_refl _) _
  have O1 := hide (o1.below hw hf)
  clear o1
  go_enter Tryz.func94, Tryz.ntmps94
  go_wp2_with fail
  refine (l6In_any _ _ _ _).mono ?_
  rintro e w' ⟨rfl, rfl⟩
  go_wp2
  all_goals
    go_ret
    refine ⟨ret_bool (tb_eq ?_), (Below.refl _ _).alloc (Nat.le_refl _) _⟩
    grind [tb_iff]

set_option maxRecDepth 100000 in
set_option maxHeartbeats 1000000 in
theorem l1Alone_2 (n : Int) (x : ByteArray) (ns : List ByteArray) (kl : Nat) (A1 A2 : Option Addr) (c1 c2 : Nat) (f1 : List Nat) (w : World) (hx : x.size ≤ maxLen) (hnl : ns.length ≤ 1048576) (hkl : kl ≤ 1048576) (o1 : Ow w (.s 1 ns.length (ns.flatMap strC)) (.slice A1 ns.length c1) f1) (hf : Lt f1 w.heap.size) :
    Calls Tryz.prog 94 #[.agg #[.int .i64 2, .int .i64 n, .string x, .slice A1 ns.length c1, .slice A2 kl c2]] w fun e w' => e = .returned (.bool (tb (n = 0 ∧ TextOk x ∧ ns.length = 0 ∧ kl = 0))) ∧ Below w.heap.size w w' := by
  have hw : Below w.heap.size w (w.alloc (.cells #[.int .i64 2, .int .i64 n, .string x, .slice A1 ns.length c1, .slice A2 kl c2] 26)) := (Below.refl _ _).alloc (Nat.le_refl _) _
  have O1 := hide (o1.below hw hf)
  clear o1
  by_cases h0 : n = 0
  · subst h0
    go_enter Tryz.func94, Tryz.ntmps94
    go_wp2_with fail
    refine (l1TextOk_any _ _ hx).mono ?_
    rintro e w' ⟨rfl, rfl⟩
    go_wp2
    all_goals
      go_ret
      refine ⟨ret_bool (tb_eq ?_), (Below.refl _ _).alloc (Nat.le_refl _) _⟩
      grind [tb_iff]
  · have hb := bne_f h0
    go_enter Tryz.func94, Tryz.ntmps94
    go_wp2
    all_goals
      go_ret
      refine ⟨ret_bool (tb_eq ?_), (Below.refl _ _).alloc (Nat.le_refl _) _⟩
      grind [tb_iff]

set_option maxRecDepth 100000 in
set_option maxHeartbeats 1000000 in
theorem l1Alone_3 (n : Int) (x : ByteArray) (ns : List ByteArray) (kl : Nat) (A1 A2 : Option Addr) (c1 c2 : Nat) (f1 : List Nat) (w : World) (hx : x.size ≤ maxLen) (hnl : ns.length ≤ 1048576) (hkl : kl ≤ 1048576) (o1 : Ow w (.s 1 ns.length (ns.flatMap strC)) (.slice A1 ns.length c1) f1) (hf : Lt f1 w.heap.size) :
    Calls Tryz.prog 94 #[.agg #[.int .i64 3, .int .i64 n, .string x, .slice A1 ns.length c1, .slice A2 kl c2]] w fun e w' => e = .returned (.bool (tb ((0 ≤ n ∧ n ≤ 1) ∧ x.toList = [] ∧ ns.length = 0 ∧ kl = 0))) ∧ Below w.heap.size w w' := by
  have hw : Below w.heap.size w (w.alloc (.cells #[.int .i64 3, .int .i64 n, .string x, .slice A1 ns.length c1, .slice A2 kl c2] 26)) := (Below.refl _ _).alloc (Nat.le_refl _) _
  have O1 := hide (o1.below hw hf)
  clear o1
  go_enter Tryz.func94, Tryz.ntmps94
  go_wp2_with fail
  refine (l6In_any _ _ _ _).mono ?_
  rintro e w' ⟨rfl, rfl⟩
  go_wp2
  all_goals
    go_ret
    refine ⟨ret_bool (tb_eq ?_), (Below.refl _ _).alloc (Nat.le_refl _) _⟩
    grind [tb_iff]

set_option maxRecDepth 100000 in
set_option maxHeartbeats 1000000 in
theorem l1Alone_4 (n : Int) (x : ByteArray) (ns : List ByteArray) (kl : Nat) (A1 A2 : Option Addr) (c1 c2 : Nat) (f1 : List Nat) (w : World) (hx : x.size ≤ maxLen) (hnl : ns.length ≤ 1048576) (hkl : kl ≤ 1048576) (o1 : Ow w (.s 1 ns.length (ns.flatMap strC)) (.slice A1 ns.length c1) f1) (hf : Lt f1 w.heap.size) :
    Calls Tryz.prog 94 #[.agg #[.int .i64 4, .int .i64 n, .string x, .slice A1 ns.length c1, .slice A2 kl c2]] w fun e w' => e = .returned (.bool (tb (n = 0 ∧ x.toList = [] ∧ ns.length = 0 ∧ kl ≤ 20))) ∧ Below w.heap.size w w' := by
  have hw : Below w.heap.size w (w.alloc (.cells #[.int .i64 4, .int .i64 n, .string x, .slice A1 ns.length c1, .slice A2 kl c2] 26)) := (Below.refl _ _).alloc (Nat.le_refl _) _
  have O1 := hide (o1.below hw hf)
  clear o1
  go_enter Tryz.func94, Tryz.ntmps94
  go_wp2
  all_goals
    go_ret
    refine ⟨ret_bool (tb_eq ?_), (Below.refl _ _).alloc (Nat.le_refl _) _⟩
    grind [tb_iff]

set_option maxRecDepth 100000 in
set_option maxHeartbeats 1000000 in
theorem l1Alone_5 (n : Int) (x : ByteArray) (ns : List ByteArray) (kl : Nat) (A1 A2 : Option Addr) (c1 c2 : Nat) (f1 : List Nat) (w : World) (hx : x.size ≤ maxLen) (hnl : ns.length ≤ 1048576) (hkl : kl ≤ 1048576) (o1 : Ow w (.s 1 ns.length (ns.flatMap strC)) (.slice A1 ns.length c1) f1) (hf : Lt f1 w.heap.size) :
    Calls Tryz.prog 94 #[.agg #[.int .i64 5, .int .i64 n, .string x, .slice A1 ns.length c1, .slice A2 kl c2]] w fun e w' => e = .returned (.bool (tb (n = 0 ∧ x.toList = [] ∧ NamesOk ns ∧ ns.length = kl))) ∧ Below w.heap.size w w' := by
  have hw : Below w.heap.size w (w.alloc (.cells #[.int .i64 5, .int .i64 n, .string x, .slice A1 ns.length c1, .slice A2 kl c2] 26)) := (Below.refl _ _).alloc (Nat.le_refl _) _
  have O1 := hide (o1.below hw hf)
  clear o1
  by_cases h0 : n = 0
  · subst h0
    by_cases he : x.toList = []
    · by_cases hl : ns.length = kl
      · subst hl
        go_enter Tryz.func94, Tryz.ntmps94
        go_wp2_with fail
        refine (l1Rise_any _ _ _ _ _ _ O1.out).mono ?_
        rintro e w' ⟨rfl, q, rfl⟩
        go_wp2
        all_goals
          go_ret
          refine ⟨ret_bool (tb_eq ?_), below_drewN hw q⟩
          grind [tb_iff]
      · have hb2 := bne_f (s := (ns.length : Int)) (c := (kl : Int)) (by omega)
        go_enter Tryz.func94, Tryz.ntmps94
        go_wp2
        all_goals
          go_ret
          refine ⟨ret_bool (tb_eq ?_), (Below.refl _ _).alloc (Nat.le_refl _) _⟩
          grind [tb_iff]
    · go_enter Tryz.func94, Tryz.ntmps94
      go_wp2
      all_goals
        go_ret
        refine ⟨ret_bool (tb_eq ?_), (Below.refl _ _).alloc (Nat.le_refl _) _⟩
        grind [tb_iff]
  · have hb := bne_f h0
    go_enter Tryz.func94, Tryz.ntmps94
    go_wp2
    all_goals
      go_ret
      refine ⟨ret_bool (tb_eq ?_), (Below.refl _ _).alloc (Nat.le_refl _) _⟩
      grind [tb_iff]

set_option maxRecDepth 100000 in
set_option maxHeartbeats 1000000 in
theorem l1Alone_6 (n : Int) (x : ByteArray) (ns : List ByteArray) (kl : Nat) (A1 A2 : Option Addr) (c1 c2 : Nat) (f1 : List Nat) (w : World) (hx : x.size ≤ maxLen) (hnl : ns.length ≤ 1048576) (hkl : kl ≤ 1048576) (o1 : Ow w (.s 1 ns.length (ns.flatMap strC)) (.slice A1 ns.length c1) f1) (hf : Lt f1 w.heap.size) :
    Calls Tryz.prog 94 #[.agg #[.int .i64 6, .int .i64 n, .string x, .slice A1 ns.length c1, .slice A2 kl c2]] w fun e w' => e = .returned (.bool (tb (n = 0 ∧ x.toList = [] ∧ ns.length = 0 ∧ kl ≤ 1))) ∧ Below w.heap.size w w' := by
  have hw : Below w.heap.size w (w.alloc (.cells #[.int .i64 6, .int .i64 n, .string x, .slice A1 ns.length c1, .slice A2 kl c2] 26)) := (Below.refl _ _).alloc (Nat.le_refl _) _
  have O1 := hide (o1.below hw hf)
  clear o1
  go_enter Tryz.func94, Tryz.ntmps94
  go_wp2
  all_goals
    go_ret
    refine ⟨ret_bool (tb_eq ?_), (Below.refl _ _).alloc (Nat.le_refl _) _⟩
    grind [tb_iff]

set_option maxRecDepth 100000 in
theorem l1Alone_any (t : Tree) (us : List Value) (fp : List Nat) (w : World) (h : OwC w t.cells us fp) (hf : Lt fp w.heap.size) (hbk : t.bulk ≤ 1048576) :
    Calls Tryz.prog 94 #[.agg us.toArray] w fun e w' => e = .returned (.bool (tb t.shape)) ∧ Below w.heap.size w w' := by
  obtain ⟨A1, c1, A2, c2, f1, f2, rfl, w0, w1, w2, o1, o2, rfl⟩ := h.oTree
  rw [Tree.bulk_eq] at hbk; unfold bulkStrs at hbk
  have hnl : t.names.length ≤ 1048576 := by omega
  have hkl : t.kids.length ≤ 1048576 := by omega
  have hp : t.shape ↔ (t.sort = 1 ∧ (-999999999 ≤ t.num ∧ t.num ≤ 999999999) ∧ t.text.toList = [] ∧ t.names.length = 0 ∧ t.kids.length = 0) ∨ (t.sort = 2 ∧ t.num = 0 ∧ TextOk t.text ∧ t.names.length = 0 ∧ t.kids.length = 0) ∨ (t.sort = 3 ∧ (0 ≤ t.num ∧ t.num ≤ 1) ∧ t.text.toList = [] ∧ t.names.length = 0 ∧ t.kids.length = 0) ∨ (t.sort = 4 ∧ t.num = 0 ∧ t.text.toList = [] ∧ t.names.length = 0 ∧ t.kids.length ≤ 20) ∨ (t.sort = 5 ∧ t.num = 0 ∧ t.text.toList = [] ∧ NamesOk t.names ∧ t.names.length = t.kids.length) ∨ (t.sort = 6 ∧ t.num = 0 ∧ t.text.toList = [] ∧ t.names.length = 0 ∧ t.kids.length ≤ 1) := Iff.rfl
  generalize t.sort = s at *
  by_cases e1 : s = 1
  · subst e1
    rw [show t.shape = ((-999999999 ≤ t.num ∧ t.num ≤ 999999999) ∧ t.text.toList = [] ∧ t.names.length = 0 ∧ t.kids.length = 0) from propext (by rw [hp]; simp)]
    exact l1Alone_1 t.num t.text t.names t.kids.length A1 A2 c1 c2 f1 w w2 hnl hkl o1 hf.left
  by_cases e2 : s = 2
  · subst e2
    rw [show t.shape = (t.num = 0 ∧ TextOk t.text ∧ t.names.length = 0 ∧ t.kids.length = 0) from propext (by rw [hp]; simp)]
    exact l1Alone_2 t.num t.text t.names t.kids.length A1 A2 c1 c2 f1 w w2 hnl hkl o1 hf.left
  by_cases e3 : s = 3
  · subst e3
    rw [show t.shape = ((0 ≤ t.num ∧ t.num ≤ 1) ∧ t.text.toList = [] ∧ t.names.length = 0 ∧ t.kids.length = 0) from propext (by rw [hp]; simp)]
    exact l1Alone_3 t.num t.text t.names t.kids.length A1 A2 c1 c2 f1 w w2 hnl hkl o1 hf.left
  by_cases e4 : s = 4
  · subst e4
    rw [show t.shape = (t.num = 0 ∧ t.text.toList = [] ∧ t.names.length = 0 ∧ t.kids.length ≤ 20) from propext (by rw [hp]; simp)]
    exact l1Alone_4 t.num t.text t.names t.kids.length A1 A2 c1 c2 f1 w w2 hnl hkl o1 hf.left
  by_cases e5 : s = 5
  · subst e5
    rw [show t.shape = (t.num = 0 ∧ t.text.toList = [] ∧ NamesOk t.names ∧ t.names.length = t.kids.length) from propext (by rw [hp]; simp)]
    exact l1Alone_5 t.num t.text t.names t.kids.length A1 A2 c1 c2 f1 w w2 hnl hkl o1 hf.left
  by_cases e6 : s = 6
  · subst e6
    rw [show t.shape = (t.num = 0 ∧ t.text.toList = [] ∧ t.names.length = 0 ∧ t.kids.length ≤ 1) from propext (by rw [hp]; simp)]
    exact l1Alone_6 t.num t.text t.names t.kids.length A1 A2 c1 c2 f1 w w2 hnl hkl o1 hf.left
  have b1 := bne_f e1
  have b2 := bne_f e2
  have b3 := bne_f e3
  have b4 := bne_f e4
  have b5 := bne_f e5
  have b6 := bne_f e6
  have HT := hide (tb_false (p := t.shape) (fun h => by have := hp.1 h; omega))
  clear hp o1 o2 h
  go_enter Tryz.func94, Tryz.ntmps94
  go_wp2
  go_ret
  exact ⟨ret_bool HT.out.symm, (Below.refl _ _).alloc (Nat.le_refl _) _⟩

end Go.Proofs.YtnaecdoeldoipaaGreatDoor
set_option linter.unusedVariables false
set_option linter.unusedSimpArgs false
namespace Go.Proofs.YtnaecdoeldoipaaGreatDoor
open Go.ChangeShapes Go.WideShapes Go.ChangeAt Go.RowKit

noncomputable def Tree.partsR (k : Tree) (lv : Nat) : Int := if tb (k.fits lv 0) = true then k.parts else -1
theorem Tree.partsR_yes {k : Tree} {lv : Nat} (h : k.fits lv 0) : k.partsR lv = k.parts := by unfold Tree.partsR; rw [tb_true h, if_pos rfl]
theorem Tree.partsR_no {k : Tree} {lv : Nat} (h : ¬ k.fits lv 0) : k.partsR lv = -1 := by unfold Tree.partsR; rw [tb_false h]; rfl

def PartsTree (k : Tree) : Prop := ∀ (us : List Value) (fp : List Nat) (lv : Nat) (z : Int) (w : World), z = lv → OwC w k.cells us fp → Lt fp w.heap.size → k.bulk ≤ 1048576 → 1 ≤ lv → lv ≤ 7 →
  Calls Tryz.prog 44 #[.agg us.toArray, .int .i64 z] w fun e w' => e = .returned (.int .i64 (k.partsR lv)) ∧ Below w.heap.size w w'

set_option maxRecDepth 100000 in
set_option maxHeartbeats 400000 in
theorem partsTree_of (k : Tree) (ih : ∀ x ∈ k.kids, PartsTree x) : PartsTree k := by
  intro us fp lv z w hz ho hf hbk hl0 hl1
  have ho' := ho
  obtain ⟨A1, c1, A2, c2, f1, f2, rfl, w0, wn, wt, o1, o2, rfl⟩ := ho.oTree
  subst hz
  have hkb := k.bulk_eq; unfold bulkStrs at hkb
  have hkl : k.kids.length ≤ 1048576 := by omega
  have HB := hide hkb
  clear hkb
  have hw1 : Below w.heap.size w (w.alloc (.cells #[.int .i64 k.sort, .int .i64 k.num, .string k.text, .slice A1 k.names.length c1, .slice A2 k.kids.length c2] 26)) := (Below.refl _ _).alloc (Nat.le_refl _) _
  have R1 : Row (w.alloc (.cells #[.int .i64 k.sort, .int .i64 k.num, .string k.text, .slice A1 k.names.length c1, .slice A2 k.kids.length c2] 26)) w.heap.size 26 [.int .i64 k.sort, .int .i64 k.num, .string k.text, .slice A1 k.names.length c1, .slice A2 k.kids.length c2] := Row.new w _ _
  have HO := hide (ho'.below hw1 hf)
  have HO2 := hide o2
  have HI := hide ih
  have HF := hide (fun (h6 : lv ≤ 6) (hs : k.shape) (h1 : Tree.goodS k.kids (lv + 1)) (h2 : 1 + (Tree.partsS k.kids : Int) ≤ 120) => Tree.partsR_yes (k := k) (lv := lv) ⟨(Tree.good_iff _ _).2 ⟨h6, hs, h1⟩, by have := k.parts_eq; omega⟩)
  have HP := hide k.parts_eq
  have HN := hide (fun (h : ¬ (lv ≤ 6 ∧ k.shape ∧ Tree.goodS k.kids (lv + 1) ∧ 1 + (Tree.partsS k.kids : Int) ≤ 120)) => Tree.partsR_no (k := k) (lv := lv) (fun h' => h ⟨((Tree.good_iff _ _).1 h'.1).1, ((Tree.good_iff _ _).1 h'.1).2.1, ((Tree.good_iff _ _).1 h'.1).2.2, by have := h'.2; have := k.parts_eq; omega⟩))
  clear o1 o2 ih ho ho'
  by_cases h6 : lv ≤ 6
  · go_enter Tryz.func44, Tryz.ntmps44
    go_wp2_with fail
    refine (l1Alone_any k _ _ _ HO.out (hf.up hw1) hbk).mono ?_
    rintro e w1 ⟨rfl, hb1⟩
    have hB1 := hw1.trans (hb1.mono hw1.size)
    have R2 := R1.below hb1 R1.lt
    have c4 := R2.cell 4
    have hsz : w.heap.size < w1.heap.size := R2.lt
    by_cases hs : k.shape
    · rw [tb_true hs]
      have HFF := hide (HF.out h6 hs)
      have HNN := hide (fun (h : ¬ (Tree.goodS k.kids (lv + 1) ∧ 1 + (Tree.partsS k.kids : Int) ≤ 120)) => HN.out (fun h' => h ⟨h'.2.2.1, h'.2.2.2⟩))
      clear hs
      go_wp2
      go_loopw [5, 6] (fun a i wr => ∃ j : Nat, j ≤ k.kids.length ∧ i = .int .i64 j ∧ a = .int .i64 (1 + (Tree.partsS (k.kids.take j) : Int)) ∧ Tree.goodS (k.kids.take j) (lv + 1) ∧ 1 + (Tree.partsS (k.kids.take j) : Int) ≤ 120 ∧ wr.cell? ⟨w.heap.size, 4, none⟩ = some (.slice A2 k.kids.length c2) ∧ w.heap.size < wr.heap.size ∧ Below w.heap.size w wr) (fun _ i _ => k.kids.length - (intOf i).toNat)
      case atStart => exact ⟨0, Nat.zero_le _, rfl, by simp [Tree.partsS], by simp [Tree.goodS], by simp [Tree.partsS], c4, hsz, hB1⟩
      case round =>
        obtain ⟨j, hj, rfl, rfl, hgood, hle, hcj, hszj, hbj⟩ := hrel
        have HG := hide hgood
        have HR := hide hbj
        clear hgood hbj c4 hsz hB1 hb1 R2
        by_cases hlt : j < k.kids.length
        · obtain ⟨g, off, vs, fi, rfl, hg, hfi, hvl, hcs, hov⟩ := (HO2.out.below HR.out hf.right).elem Tree.cells_len hlt
          have hov' := hov
          obtain ⟨B1, d1, B2, d2, q1, q2, rfl, v0, vn, vt, x1, x2, rfl⟩ := hov.oTree
          have p0 := hcs 0 _ rfl
          have p1 := hcs 1 _ rfl
          have p2 := hcs 2 _ rfl
          have p3 := hcs 3 _ rfl
          have p4 := hcs 4 _ rfl
          simp only [Nat.add_zero] at p0
          have hfq : Lt (q1 ++ q2) wr.heap.size := ((hf.right).up HR.out).sub hfi
          have HC := hide (HI.out _ (List.getElem_mem hlt))
          have hsn := hide (Tree.goodS_snoc k.kids (lv + 1) j hlt)
          have hps := hide (Tree.partsS_snoc k.kids j hlt)
          have hpl' := Tree.partsS_le k.kids (j + 1)
          have hbl : k.kids[j].bulk ≤ 1048576 := by
            have h1 := Tree.bulkS_snoc k.kids j hlt
            have h2 := Tree.bulkS_le k.kids (j + 1)
            have h3 := HB.out
            omega
          have HO := hide hov'
          have hat := hide (fun (h : Tree.goodS k.kids (lv + 1)) => Tree.goodS_at h hlt)
          clear hov hov' x1 x2 hcs
          generalize k.kids[j] = x at *
          generalize Tree.partsS (k.kids.take j) = m at *
          go_wp2_with fail
          refine (HC.out _ _ (lv + 1) _ _ (by omega) HO.out hfq hbl (by omega) (by omega)).mono ?_
          rintro e w2 ⟨rfl, hb2⟩
          have hw3 := HR.out.trans (hb2.mono HR.out.size)
          have hsz3 : w.heap.size < w2.heap.size := Nat.lt_of_lt_of_le hszj hb2.size
          have hcj2 : w2.cell? ⟨w.heap.size, 4, none⟩ = some (.slice (some ⟨g, off, none⟩) k.kids.length c2) := (hb2.cell (p := ⟨w.heap.size, 4, none⟩) hszj).trans hcj
          by_cases hx : x.fits (lv + 1) 0
          · rw [Tree.partsR_yes hx]
            have hx2 : (x.parts : Int) ≤ 120 := by have := hx.2; omega
            have HX := hide hx
            clear hx hcj
            by_cases hsum : 1 + (m : Int) + x.parts ≤ 120
            · go_wp2
              go_roundw
              case rel => exact ⟨j + 1, by omega, by go_num, by rw [hps.out]; go_num, hsn.out.2 ⟨HG.out, HX.out.1⟩, by rw [hps.out]; omega, hcj2, hsz3, hw3⟩
              case measure => simp [intOf]; omega
            · have HT := hide (HNN.out (fun h => hsum (by have := h.2; have := hps.out; omega)))
              go_wp2
              go_ret
              exact ⟨ret_int HT.out.symm, hw3⟩
          · rw [Tree.partsR_no hx]
            have HT := hide (HNN.out (fun h => hx ⟨hat.out h.1, by have := h.2; have := hps.out; omega⟩))
            clear hx
            go_wp2
            go_ret
            exact ⟨ret_int HT.out.symm, hw3⟩
        · obtain rfl : j = k.kids.length := by omega
          rw [List.take_length] at *
          have HT := hide (HFF.out HG.out hle)
          go_wp2
          go_ret
          exact ⟨ret_int (by rw [HT.out, HP.out]; go_num), HR.out⟩
    · rw [tb_false hs]
      have HT := hide (HN.out (fun h => hs h.2.1))
      clear hs
      go_wp2
      go_ret
      exact ⟨ret_int HT.out.symm, hB1⟩
  · have HT := hide (HN.out (fun h => h6 h.1))
    go_enter Tryz.func44, Tryz.ntmps44
    go_wp2
    go_ret
    exact ⟨ret_int HT.out.symm, hw1⟩

theorem partsTree_any (k : Tree) : PartsTree k := Tree.ind partsTree_of k

def Tree.ok (k : Tree) : Prop := k.fits 1 0
noncomputable def Tree.count (k : Tree) : Int := if tb k.ok = true then k.parts else 0
theorem Tree.count_yes {k : Tree} (h : k.ok) : k.count = k.parts := by unfold Tree.count; rw [tb_true h, if_pos rfl]
theorem Tree.count_no {k : Tree} (h : ¬ k.ok) : k.count = 0 := by unfold Tree.count; rw [tb_false h]; rfl

set_option maxRecDepth 100000 in
theorem implTreeParts_any (k : Tree) (us : List Value) (fp : List Nat) (w : World) (ho : OwC w k.cells us fp) (hf : Lt fp w.heap.size) (hbk : k.bulk ≤ 1048576) :
    Calls Tryz.prog 14 #[.agg us.toArray] w fun e w' => e = .returned (.int .i64 k.count) ∧ Below w.heap.size w w' := by
  have ho' := ho
  obtain ⟨A1, c1, A2, c2, f1, f2, rfl, w0, wn, wt, o1, o2, rfl⟩ := ho.oTree
  have hw1 : Below w.heap.size w ((w.alloc (.cells #[.int .i64 k.sort, .int .i64 k.num, .string k.text, .slice A1 k.names.length c1, .slice A2 k.kids.length c2] 26)).alloc (.cells #[.int .i64 0] 3)) := ((Below.refl _ _).alloc (Nat.le_refl _) _).alloc (by simp) _
  have HO := hide (ho'.below hw1 hf)
  have hf2 := (hf.mono hw1.size)
  have hnm : w.heap.size + 1 ∉ f1 ++ f2 := hf.not_mem (by omega)
  clear ho ho' o1 o2
  go_enter Tryz.func14, Tryz.ntmps14
  go_wp2_with fail
  refine (lookTree_any k _ _ 1 _ 0 _ _ (by omega) HO.out hf2 hbk (by omega) (by omega) (by omega) (by omega) (by go_simp) (by go_simp) hnm).mono ?_
  rintro e w2 ⟨rfl, _, hcell, hg⟩
  have hb : Below w.heap.size w w2 := ⟨hg.os.trans hw1.os, hg.tape.trans hw1.tape, hg.output.trans hw1.output, Nat.le_trans hw1.size hg.size, fun i hi => (hg.block i (by simp; omega) (fun e => by injection e with e; omega)).trans (hw1.block i hi)⟩
  by_cases h : k.ok
  · have hc := hcell h
    have HT := hide (Tree.count_yes h)
    rw [show tb (k.fits 1 0) = true from tb_true h]
    clear hcell h
    go_wp2
    go_ret
    exact ⟨ret_int (by rw [HT.out]; try go_num), hb⟩
  · have HT := hide (Tree.count_no h)
    rw [show tb (k.fits 1 0) = false from tb_false h]
    clear hcell h
    go_wp2
    go_ret
    exact ⟨ret_int HT.out.symm, hb⟩

set_option maxRecDepth 100000 in
theorem implTreeOk_any (k : Tree) (us : List Value) (fp : List Nat) (w : World) (ho : OwC w k.cells us fp) (hf : Lt fp w.heap.size) (hbk : k.bulk ≤ 1048576) :
    Calls Tryz.prog 13 #[.agg us.toArray] w fun e w' => e = .returned (.bool (tb k.ok)) ∧ Below w.heap.size w w' := by
  have ho' := ho
  obtain ⟨A1, c1, A2, c2, f1, f2, rfl, w0, wn, wt, o1, o2, rfl⟩ := ho.oTree
  have hw1 : Below w.heap.size w (w.alloc (.cells #[.int .i64 k.sort, .int .i64 k.num, .string k.text, .slice A1 k.names.length c1, .slice A2 k.kids.length c2] 26)) := (Below.refl _ _).alloc (Nat.le_refl _) _
  have HO := hide (ho'.below hw1 hf)
  have hf2 := (hf.mono hw1.size)
  clear ho ho' o1 o2
  go_enter Tryz.func13, Tryz.ntmps13
  go_wp2_with fail
  refine (implTreeParts_any k _ _ _ HO.out hf2 hbk).mono ?_
  rintro e w2 ⟨rfl, hb⟩
  have hb' := hw1.trans (hb.mono hw1.size)
  by_cases h : k.ok
  · rw [Tree.count_yes h]
    have HT := hide (tb_true h)
    have hp := k.parts_eq
    have h1 : (0 : Int) < k.parts := by omega
    clear h hp
    go_wp2
    go_ret
    exact ⟨ret_bool (by rw [HT.out]; simpa using h1), hb'⟩
  · rw [Tree.count_no h]
    have HT := hide (tb_false h)
    clear h
    go_wp2
    go_ret
    exact ⟨ret_bool HT.out.symm, hb'⟩
set_option maxRecDepth 100000 in
theorem specTreeOk_any (k : Tree) (us : List Value) (fp : List Nat) (w : World) (ho : OwC w k.cells us fp) (hf : Lt fp w.heap.size) (hbk : k.bulk ≤ 1048576) :
    Calls Tryz.prog 11 #[.agg us.toArray] w fun e w' => e = .returned (.bool (tb k.ok)) ∧ Below w.heap.size w w' := by
  have ho' := ho
  obtain ⟨A1, c1, A2, c2, f1, f2, rfl, w0, wn, wt, o1, o2, rfl⟩ := ho.oTree
  have hw1 : Below w.heap.size w (w.alloc (.cells #[.int .i64 k.sort, .int .i64 k.num, .string k.text, .slice A1 k.names.length c1, .slice A2 k.kids.length c2] 26)) := (Below.refl _ _).alloc (Nat.le_refl _) _
  have HO := hide (ho'.below hw1 hf)
  have hf2 := (hf.mono hw1.size)
  clear ho ho' o1 o2
  go_enter Tryz.func11, Tryz.ntmps11
  go_wp2_with fail
  refine (partsTree_any k _ _ 1 _ _ (by omega) HO.out hf2 hbk (by omega) (by omega)).mono ?_
  rintro e w2 ⟨rfl, hb⟩
  have hb' := hw1.trans (hb.mono hw1.size)
  by_cases h : k.ok
  · rw [Tree.partsR_yes h]
    have HT := hide (tb_true h)
    have hp := k.parts_eq
    have h1 : (0 : Int) < k.parts := by omega
    have h2 : (k.parts : Int) ≤ 120 := by have := h.2; omega
    clear hp h
    go_wp2
    go_ret
    exact ⟨ret_bool (by rw [HT.out]; simpa using h1), hb'⟩
  · rw [Tree.partsR_no h]
    have HT := hide (tb_false h)
    clear h
    go_wp2
    go_ret
    exact ⟨ret_bool HT.out.symm, hb'⟩
end Go.Proofs.YtnaecdoeldoipaaGreatDoor
