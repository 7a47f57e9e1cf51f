/-
  Trees that are ok, but for their kids: the program.
-/
import Derived.Test.YtnaecdoeldoipaaGreatDoorTreeOk
set_option linter.unusedVariables false
set_option linter.unusedSimpArgs false
namespace Go.Proofs.YtnaecdoeldoipaaGreatDoor
open Go.ChangeShapes Go.WideShapes Go.ChangeAt Go.RowKit
set_option maxRecDepth 100000 in
set_option maxHeartbeats 1000000 in
theorem treeShapeOk_1 (n : Int) (x : ByteArray) (ns : List ByteArray) (kl : Nat) (A1 A2 : Option Addr) (c1 c2 : Nat) (f1 : List Nat) (w : World) (hx : x.size ≤ maxLen) (hnl : ns.length ≤ 1048576) (hkl : kl ≤ 1048576) (o1 : Ow w (.s 1 ns.length (ns.flatMap strC)) (.slice A1 ns.length c1) f1) (hf : Lt f1 w.heap.size) :
    Calls Tryz.prog 97 #[.agg #[.int .i64 1, .int .i64 n, .string x, .slice A1 ns.length c1, .slice A2 kl c2]] w fun e w' => e = .returned (.bool (tb ((-999999999 ≤ n ∧ n ≤ 999999999) ∧ x.toList = [] ∧ ns.length = 0 ∧ kl = 0))) ∧ Below w.heap.size w w' := by
  have hw : Below w.heap.size w (w.alloc (.cells #[.int .i64 1, .int .i64 n, .string x, .slice A1 ns.length c1, .slice A2 kl c2] 26)) := (Below.refl _ _).alloc (Nat.le_refl _) _
  have O1 := hide (o1.below hw hf)
  clear o1
  go_enter Tryz.func97, Tryz.ntmps97
  go_wp2_with fail
  refine (isNum_any _ _).mono ?_
  rintro e w' ⟨rfl, rfl⟩
  go_wp2
  all_goals
    go_ret
    refine ⟨ret_bool (tb_eq ?_), (Below.refl _ _).alloc (Nat.le_refl _) _⟩
    grind [tb_iff]

set_option maxRecDepth 100000 in
set_option maxHeartbeats 1000000 in
theorem treeShapeOk_2 (n : Int) (x : ByteArray) (ns : List ByteArray) (kl : Nat) (A1 A2 : Option Addr) (c1 c2 : Nat) (f1 : List Nat) (w : World) (hx : x.size ≤ maxLen) (hnl : ns.length ≤ 1048576) (hkl : kl ≤ 1048576) (o1 : Ow w (.s 1 ns.length (ns.flatMap strC)) (.slice A1 ns.length c1) f1) (hf : Lt f1 w.heap.size) :
    Calls Tryz.prog 97 #[.agg #[.int .i64 2, .int .i64 n, .string x, .slice A1 ns.length c1, .slice A2 kl c2]] w fun e w' => e = .returned (.bool (tb (n = 0 ∧ TextOk x ∧ ns.length = 0 ∧ kl = 0))) ∧ Below w.heap.size w w' := by
  have hw : Below w.heap.size w (w.alloc (.cells #[.int .i64 2, .int .i64 n, .string x, .slice A1 ns.length c1, .slice A2 kl c2] 26)) := (Below.refl _ _).alloc (Nat.le_refl _) _
  have O1 := hide (o1.below hw hf)
  clear o1
  by_cases h0 : n = 0
  · subst h0
    go_enter Tryz.func97, Tryz.ntmps97
    go_wp2_with fail
    refine (isText_any _ _ hx).mono ?_
    rintro e w' ⟨rfl, rfl⟩
    go_wp2
    all_goals
      go_ret
      refine ⟨ret_bool (tb_eq ?_), (Below.refl _ _).alloc (Nat.le_refl _) _⟩
      grind [tb_iff]
  · have hb := bne_f h0
    go_enter Tryz.func97, Tryz.ntmps97
    go_wp2
    all_goals
      go_ret
      refine ⟨ret_bool (tb_eq ?_), (Below.refl _ _).alloc (Nat.le_refl _) _⟩
      grind [tb_iff]

set_option maxRecDepth 100000 in
set_option maxHeartbeats 1000000 in
theorem treeShapeOk_3 (n : Int) (x : ByteArray) (ns : List ByteArray) (kl : Nat) (A1 A2 : Option Addr) (c1 c2 : Nat) (f1 : List Nat) (w : World) (hx : x.size ≤ maxLen) (hnl : ns.length ≤ 1048576) (hkl : kl ≤ 1048576) (o1 : Ow w (.s 1 ns.length (ns.flatMap strC)) (.slice A1 ns.length c1) f1) (hf : Lt f1 w.heap.size) :
    Calls Tryz.prog 97 #[.agg #[.int .i64 3, .int .i64 n, .string x, .slice A1 ns.length c1, .slice A2 kl c2]] w fun e w' => e = .returned (.bool (tb ((0 ≤ n ∧ n ≤ 1) ∧ x.toList = [] ∧ ns.length = 0 ∧ kl = 0))) ∧ Below w.heap.size w w' := by
  have hw : Below w.heap.size w (w.alloc (.cells #[.int .i64 3, .int .i64 n, .string x, .slice A1 ns.length c1, .slice A2 kl c2] 26)) := (Below.refl _ _).alloc (Nat.le_refl _) _
  have O1 := hide (o1.below hw hf)
  clear o1
  go_enter Tryz.func97, Tryz.ntmps97
  go_wp2_with fail
  refine (inRange_any _ _ _ _).mono ?_
  rintro e w' ⟨rfl, rfl⟩
  go_wp2
  all_goals
    go_ret
    refine ⟨ret_bool (tb_eq ?_), (Below.refl _ _).alloc (Nat.le_refl _) _⟩
    grind [tb_iff]

set_option maxRecDepth 100000 in
set_option maxHeartbeats 1000000 in
theorem treeShapeOk_4 (n : Int) (x : ByteArray) (ns : List ByteArray) (kl : Nat) (A1 A2 : Option Addr) (c1 c2 : Nat) (f1 : List Nat) (w : World) (hx : x.size ≤ maxLen) (hnl : ns.length ≤ 1048576) (hkl : kl ≤ 1048576) (o1 : Ow w (.s 1 ns.length (ns.flatMap strC)) (.slice A1 ns.length c1) f1) (hf : Lt f1 w.heap.size) :
    Calls Tryz.prog 97 #[.agg #[.int .i64 4, .int .i64 n, .string x, .slice A1 ns.length c1, .slice A2 kl c2]] w fun e w' => e = .returned (.bool (tb (n = 0 ∧ x.toList = [] ∧ ns.length = 0 ∧ kl ≤ 20))) ∧ Below w.heap.size w w' := by
  have hw : Below w.heap.size w (w.alloc (.cells #[.int .i64 4, .int .i64 n, .string x, .slice A1 ns.length c1, .slice A2 kl c2] 26)) := (Below.refl _ _).alloc (Nat.le_refl _) _
  have O1 := hide (o1.below hw hf)
  clear o1
  go_enter Tryz.func97, Tryz.ntmps97
  go_wp2
  all_goals
    go_ret
    refine ⟨ret_bool (tb_eq ?_), (Below.refl _ _).alloc (Nat.le_refl _) _⟩
    grind [tb_iff]

set_option maxRecDepth 100000 in
set_option maxHeartbeats 1000000 in
theorem treeShapeOk_5 (n : Int) (x : ByteArray) (ns : List ByteArray) (kl : Nat) (A1 A2 : Option Addr) (c1 c2 : Nat) (f1 : List Nat) (w : World) (hx : x.size ≤ maxLen) (hnl : ns.length ≤ 1048576) (hkl : kl ≤ 1048576) (o1 : Ow w (.s 1 ns.length (ns.flatMap strC)) (.slice A1 ns.length c1) f1) (hf : Lt f1 w.heap.size) :
    Calls Tryz.prog 97 #[.agg #[.int .i64 5, .int .i64 n, .string x, .slice A1 ns.length c1, .slice A2 kl c2]] w fun e w' => e = .returned (.bool (tb (n = 0 ∧ x.toList = [] ∧ NamesOk ns ∧ ns.length = kl))) ∧ Below w.heap.size w w' := by
  have hw : Below w.heap.size w (w.alloc (.cells #[.int .i64 5, .int .i64 n, .string x, .slice A1 ns.length c1, .slice A2 kl c2] 26)) := (Below.refl _ _).alloc (Nat.le_refl _) _
  have O1 := hide (o1.below hw hf)
  clear o1
  by_cases h0 : n = 0
  · subst h0
    by_cases he : x.toList = []
    · go_enter Tryz.func97, Tryz.ntmps97
      go_wp2_with fail
      refine (areNames_any _ _ _ _ _ _ O1.out).mono ?_
      rintro e w' ⟨rfl, rfl⟩
      go_wp2
      all_goals
        go_ret
        refine ⟨ret_bool (tb_eq ?_), (Below.refl _ _).alloc (Nat.le_refl _) _⟩
        grind [tb_iff]
    · go_enter Tryz.func97, Tryz.ntmps97
      go_wp2
      all_goals
        go_ret
        refine ⟨ret_bool (tb_eq ?_), (Below.refl _ _).alloc (Nat.le_refl _) _⟩
        grind [tb_iff]
  · have hb := bne_f h0
    go_enter Tryz.func97, Tryz.ntmps97
    go_wp2
    all_goals
      go_ret
      refine ⟨ret_bool (tb_eq ?_), (Below.refl _ _).alloc (Nat.le_refl _) _⟩
      grind [tb_iff]

set_option maxRecDepth 100000 in
set_option maxHeartbeats 1000000 in
theorem treeShapeOk_6 (n : Int) (x : ByteArray) (ns : List ByteArray) (kl : Nat) (A1 A2 : Option Addr) (c1 c2 : Nat) (f1 : List Nat) (w : World) (hx : x.size ≤ maxLen) (hnl : ns.length ≤ 1048576) (hkl : kl ≤ 1048576) (o1 : Ow w (.s 1 ns.length (ns.flatMap strC)) (.slice A1 ns.length c1) f1) (hf : Lt f1 w.heap.size) :
    Calls Tryz.prog 97 #[.agg #[.int .i64 6, .int .i64 n, .string x, .slice A1 ns.length c1, .slice A2 kl c2]] w fun e w' => e = .returned (.bool (tb (n = 0 ∧ x.toList = [] ∧ ns.length = 0 ∧ kl ≤ 1))) ∧ Below w.heap.size w w' := by
  have hw : Below w.heap.size w (w.alloc (.cells #[.int .i64 6, .int .i64 n, .string x, .slice A1 ns.length c1, .slice A2 kl c2] 26)) := (Below.refl _ _).alloc (Nat.le_refl _) _
  have O1 := hide (o1.below hw hf)
  clear o1
  go_enter Tryz.func97, Tryz.ntmps97
  go_wp2
  all_goals
    go_ret
    refine ⟨ret_bool (tb_eq ?_), (Below.refl _ _).alloc (Nat.le_refl _) _⟩
    grind [tb_iff]

set_option maxRecDepth 100000 in
theorem treeShapeOk_any (t : Tree) (us : List Value) (fp : List Nat) (w : World) (h : OwC w t.cells us fp) (hf : Lt fp w.heap.size) (hbk : t.bulk ≤ 1048576) :
    Calls Tryz.prog 97 #[.agg us.toArray] w fun e w' => e = .returned (.bool (tb t.shape)) ∧ Below w.heap.size w w' := by
  obtain ⟨A1, c1, A2, c2, f1, f2, rfl, w0, w1, w2, o1, o2, rfl⟩ := h.oTree
  rw [Tree.bulk_eq] at hbk; unfold bulkStrs at hbk
  have hnl : t.names.length ≤ 1048576 := by omega
  have hkl : t.kids.length ≤ 1048576 := by omega
  have hp : t.shape ↔ (t.sort = 1 ∧ (-999999999 ≤ t.num ∧ t.num ≤ 999999999) ∧ t.text.toList = [] ∧ t.names.length = 0 ∧ t.kids.length = 0) ∨ (t.sort = 2 ∧ t.num = 0 ∧ TextOk t.text ∧ t.names.length = 0 ∧ t.kids.length = 0) ∨ (t.sort = 3 ∧ (0 ≤ t.num ∧ t.num ≤ 1) ∧ t.text.toList = [] ∧ t.names.length = 0 ∧ t.kids.length = 0) ∨ (t.sort = 4 ∧ t.num = 0 ∧ t.text.toList = [] ∧ t.names.length = 0 ∧ t.kids.length ≤ 20) ∨ (t.sort = 5 ∧ t.num = 0 ∧ t.text.toList = [] ∧ NamesOk t.names ∧ t.names.length = t.kids.length) ∨ (t.sort = 6 ∧ t.num = 0 ∧ t.text.toList = [] ∧ t.names.length = 0 ∧ t.kids.length ≤ 1) := Iff.rfl
  generalize t.sort = s at *
  by_cases e1 : s = 1
  · subst e1
    rw [show t.shape = ((-999999999 ≤ t.num ∧ t.num ≤ 999999999) ∧ t.text.toList = [] ∧ t.names.length = 0 ∧ t.kids.length = 0) from propext (by rw [hp]; simp)]
    exact treeShapeOk_1 t.num t.text t.names t.kids.length A1 A2 c1 c2 f1 w w2 hnl hkl o1 hf.left
  by_cases e2 : s = 2
  · subst e2
    rw [show t.shape = (t.num = 0 ∧ TextOk t.text ∧ t.names.length = 0 ∧ t.kids.length = 0) from propext (by rw [hp]; simp)]
    exact treeShapeOk_2 t.num t.text t.names t.kids.length A1 A2 c1 c2 f1 w w2 hnl hkl o1 hf.left
  by_cases e3 : s = 3
  · subst e3
    rw [show t.shape = ((0 ≤ t.num ∧ t.num ≤ 1) ∧ t.text.toList = [] ∧ t.names.length = 0 ∧ t.kids.length = 0) from propext (by rw [hp]; simp)]
    exact treeShapeOk_3 t.num t.text t.names t.kids.length A1 A2 c1 c2 f1 w w2 hnl hkl o1 hf.left
  by_cases e4 : s = 4
  · subst e4
    rw [show t.shape = (t.num = 0 ∧ t.text.toList = [] ∧ t.names.length = 0 ∧ t.kids.length ≤ 20) from propext (by rw [hp]; simp)]
    exact treeShapeOk_4 t.num t.text t.names t.kids.length A1 A2 c1 c2 f1 w w2 hnl hkl o1 hf.left
  by_cases e5 : s = 5
  · subst e5
    rw [show t.shape = (t.num = 0 ∧ t.text.toList = [] ∧ NamesOk t.names ∧ t.names.length = t.kids.length) from propext (by rw [hp]; simp)]
    exact treeShapeOk_5 t.num t.text t.names t.kids.length A1 A2 c1 c2 f1 w w2 hnl hkl o1 hf.left
  by_cases e6 : s = 6
  · subst e6
    rw [show t.shape = (t.num = 0 ∧ t.text.toList = [] ∧ t.names.length = 0 ∧ t.kids.length ≤ 1) from propext (by rw [hp]; simp)]
    exact treeShapeOk_6 t.num t.text t.names t.kids.length A1 A2 c1 c2 f1 w w2 hnl hkl o1 hf.left
  have b1 := bne_f e1
  have b2 := bne_f e2
  have b3 := bne_f e3
  have b4 := bne_f e4
  have b5 := bne_f e5
  have b6 := bne_f e6
  have HT := hide (tb_false (p := t.shape) (fun h => by have := hp.1 h; omega))
  clear hp o1 o2 h
  go_enter Tryz.func97, Tryz.ntmps97
  go_wp2
  go_ret
  exact ⟨ret_bool HT.out.symm, (Below.refl _ _).alloc (Nat.le_refl _) _⟩

end Go.Proofs.YtnaecdoeldoipaaGreatDoor
