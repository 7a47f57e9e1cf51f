/-
  The laws' own helpers on slices of texts, of numbers and of bytes: their size, a copy, equality. Names: the program's isName, areNames and the reference's l6NameOk, l1Rise answer alike. Tree as data: its cells, its size.
-/
import Derived.Test.YtnaecdoeldoipaaGreatDoorProg
import Derived.Test.YtnaecdoeldoipaaGreatDoorKTxt
set_option linter.unusedVariables false
set_option linter.unusedSimpArgs false
namespace Go.Proofs.YtnaecdoeldoipaaGreatDoor
open Go.ChangeShapes Go.WideShapes Go.ChangeAt Go.RowKit

def strC (s : ByteArray) : List D := [.v (.string s)]
def intC (n : Int) : List D := [.v (.int .i64 n)]
def byteC (b : UInt8) : List D := [.v (.int .u8 b.toNat)]
theorem strC_len (s : ByteArray) : (strC s).length = 1 := rfl
theorem byteC_len (b : UInt8) : (byteC b).length = 1 := rfl
def bulkStr : List ByteArray → Nat
  | [] => 0
  | s :: l => s.size + bulkStr l
def bulkStrs (l : List ByteArray) : Nat := l.length + bulkStr l
theorem bulkStr_append (a b : List ByteArray) : bulkStr (a ++ b) = bulkStr a + bulkStr b := by
  induction a with
  | nil => simp [bulkStr]
  | cons x a ih => simp [bulkStr, ih]; omega
theorem OwC.str {w : World} {s : ByteArray} {us : List Value} {fp : List Nat} (h : OwC w (strC s) us fp) : us = [.string s] ∧ (s.size ≤ maxLen) ∧ fp = [] := by
  match us, OwC.length _ h with
  | [u], _ =>
    obtain ⟨f1, f2, h1, h2, rfl⟩ := h
    simp only [Ow, okAtom] at h1
    obtain ⟨rfl, h3, rfl⟩ := h1
    simp only [OwC] at h2
    subst h2
    exact ⟨rfl, h3, rfl⟩
/-- the element at a place -/
theorem strs_at {w : World} {l : List ByteArray} {A : Option Addr} {n c : Nat} {fp : List Nat} (h : Ow w (.s 1 l.length (l.flatMap strC)) (.slice A n c) fp) {i : Nat} (hi : i < l.length) :
    ∃ g off, A = some ⟨g, off, none⟩ ∧ g ∈ fp ∧ w.cell? ⟨g, off + i, none⟩ = some (.string l[i]) ∧ (l[i].size ≤ maxLen) := by
  obtain ⟨g, off, us, fi, rfl, hg, _, hl, hc, ho⟩ := h.elem strC_len hi
  obtain ⟨rfl, hs, _⟩ := ho.str
  have := hc 0 _ rfl
  exact ⟨g, off, rfl, hg, by simpa using this, hs⟩
theorem OwC.int {w : World} {s : Int} {us : List Value} {fp : List Nat} (h : OwC w (intC s) us fp) : us = [.int .i64 s] ∧ ((Lit.int .i64 s).wf = true) ∧ fp = [] := by
  match us, OwC.length _ h with
  | [u], _ =>
    obtain ⟨f1, f2, h1, h2, rfl⟩ := h
    simp only [Ow, okAtom] at h1
    obtain ⟨rfl, h3, rfl⟩ := h1
    simp only [OwC] at h2
    subst h2
    exact ⟨rfl, h3, rfl⟩
theorem OwC.byte {w : World} {s : UInt8} {us : List Value} {fp : List Nat} (h : OwC w (byteC s) us fp) : us = [.int .u8 s.toNat] ∧ (True) ∧ fp = [] := by
  match us, OwC.length _ h with
  | [u], _ =>
    obtain ⟨f1, f2, h1, h2, rfl⟩ := h
    simp only [Ow, okAtom] at h1
    obtain ⟨rfl, h3, rfl⟩ := h1
    simp only [OwC] at h2
    subst h2
    exact ⟨rfl, trivial, rfl⟩
/-- the element at a place -/
theorem bytes_at {w : World} {l : List UInt8} {A : Option Addr} {n c : Nat} {fp : List Nat} (h : Ow w (.s 1 l.length (l.flatMap byteC)) (.slice A n c) fp) {i : Nat} (hi : i < l.length) :
    ∃ g off, A = some ⟨g, off, none⟩ ∧ g ∈ fp ∧ w.cell? ⟨g, off + i, none⟩ = some (.int .u8 l[i].toNat) ∧ (True) := by
  obtain ⟨g, off, us, fi, rfl, hg, _, hl, hc, ho⟩ := h.elem byteC_len hi
  obtain ⟨rfl, hs, _⟩ := ho.byte
  have := hc 0 _ rfl
  exact ⟨g, off, rfl, hg, by simpa using this, hs⟩
theorem info_string : (Tryz.prog.info? 9).map (fun i => (i.zero, i.size, i.bytes)) = some (some (.string .empty), 1, 16) := by kernel_rfl

theorem wrapI (x : Int) (h1 : -9223372036854775808 ≤ x) (h2 : x ≤ 9223372036854775807) : IntKind.i64.wrap x = x := by
  rw [IntKind.wrap_i64]
  omega
end Go.Proofs.YtnaecdoeldoipaaGreatDoor
set_option linter.unusedVariables false
set_option linter.unusedSimpArgs false
namespace Go.Proofs.YtnaecdoeldoipaaGreatDoor
open Go.ChangeShapes Go.WideShapes Go.ChangeAt Go.RowKit

/-- A proposition as a Bool. -/
noncomputable def tb (p : Prop) : Bool := @decide p (Classical.propDecidable p)
theorem tb_true {p : Prop} (h : p) : tb p = true := by simp [tb, h]
theorem tb_false {p : Prop} (h : ¬ p) : tb p = false := by simp [tb, h]

def NameAt (s : ByteArray) (k : Nat) (h : k < s.size) : Prop := (97 ≤ (s[k].toNat : Int) ∧ (s[k].toNat : Int) ≤ 122) ∨ (48 ≤ (s[k].toNat : Int) ∧ (s[k].toNat : Int) ≤ 57 ∧ k ≠ 0)
def NameOk (s : ByteArray) : Prop := 1 ≤ s.size ∧ s.size ≤ 8 ∧ ∀ k (h : k < s.size), NameAt s k h

theorem inRange_any (n lo hi : Int) (w : World) :
    Calls Tryz.prog 82 #[.int .i64 n, .int .i64 lo, .int .i64 hi] w fun e w' => e = .returned (.bool (tb (lo ≤ n ∧ n ≤ hi))) ∧ w = w' := by
  by_cases h1 : lo ≤ n
  · by_cases h2 : n ≤ hi
    · go_enter Tryz.func82, Tryz.ntmps82
      go_wp2
      go_ret
      exact ⟨ret_bool (by rw [tb_true ⟨h1, h2⟩]), rfl⟩
    · go_enter Tryz.func82, Tryz.ntmps82
      go_wp2
      go_ret
      exact ⟨ret_bool (by rw [tb_false (by omega)]), rfl⟩
  · go_enter Tryz.func82, Tryz.ntmps82
    go_wp2
    go_ret
    exact ⟨ret_bool (by rw [tb_false (by omega)]), rfl⟩

set_option maxRecDepth 100000 in
theorem isName_any (s : ByteArray) (w : World) (hs : s.size ≤ maxLen) :
    Calls Tryz.prog 81 #[.string s] w fun e w' => e = .returned (.bool (tb (NameOk s))) ∧ w = w' := by
  unfold maxLen at hs
  go_enter Tryz.func81, Tryz.ntmps81
  go_wp2
  go_loop [7] (fun i => ∃ k : Nat, k ≤ s.size ∧ i = .int .i64 k ∧ ∀ j (h : j < s.size), j < k → NameAt s j h) (fun i => s.size - (intOf i).toNat)
  case atStart => exact ⟨0, Nat.zero_le _, rfl, fun j h hj => by omega⟩
  case round =>
    obtain ⟨k, hk, rfl, ha⟩ := hrel
    have HA := hide ha
    clear ha
    by_cases hlt : k < s.size
    · go_wp2
      all_goals first
        | (go_ret; exact ⟨ret_bool (by rw [tb_false (fun h => by have := h.2.2 k hlt; unfold NameAt at this; (try simp only [beq_iff_eq, beq_eq_false_iff_ne, Bool.not_eq_true', Bool.not_eq_false', decide_eq_true_eq, decide_eq_false_iff_not] at *); omega)]), rfl⟩)
        | (go_round
           case rel => exact ⟨k + 1, by omega, by go_num, fun j h hj => by
             by_cases e : j < k
             · exact HA.out j h e
             · obtain rfl : j = k := by omega
               unfold NameAt
               (try simp only [beq_iff_eq, beq_eq_false_iff_ne, Bool.not_eq_true', Bool.not_eq_false', decide_eq_true_eq, decide_eq_false_iff_not] at *); omega⟩
           case measure => simp [intOf]; omega)
    · obtain rfl : k = s.size := by omega
      go_wp2_with fail
      refine (inRange_any _ _ _ _).mono ?_
      rintro e w' ⟨rfl, rfl⟩
      go_wp2
      go_ret
      refine ⟨ret_bool ?_, rfl⟩
      congr 1
      apply propext
      unfold NameOk
      constructor
      · intro h; exact ⟨by omega, by omega, fun k h => HA.out k h h⟩
      · intro h; omega

theorem l6In_any (n lo hi : Int) (w : World) :
    Calls Tryz.prog 75 #[.int .i64 n, .int .i64 lo, .int .i64 hi] w fun e w' => e = .returned (.bool (tb (lo ≤ n ∧ n ≤ hi))) ∧ w = w' := by
  by_cases h1 : lo ≤ n
  · by_cases h2 : n ≤ hi
    · go_enter Tryz.func75, Tryz.ntmps75
      go_wp2
      go_ret
      exact ⟨ret_bool (by rw [tb_true ⟨h1, h2⟩]), rfl⟩
    · go_enter Tryz.func75, Tryz.ntmps75
      go_wp2
      go_ret
      exact ⟨ret_bool (by rw [tb_false (by omega)]), rfl⟩
  · go_enter Tryz.func75, Tryz.ntmps75
    go_wp2
    go_ret
    exact ⟨ret_bool (by rw [tb_false (by omega)]), rfl⟩

theorem nameOk_first {s : ByteArray} (h : NameOk s) : ∃ h0 : 0 < s.size, 97 ≤ (s[0].toNat : Int) ∧ (s[0].toNat : Int) ≤ 122 := by
  have h0 : 0 < s.size := by have := h.1; omega
  have := h.2.2 0 h0
  unfold NameAt at this
  exact ⟨h0, by omega⟩

set_option maxRecDepth 100000 in
theorem l6NameOk_any (s : ByteArray) (w : World) (hs : s.size ≤ maxLen) :
    Calls Tryz.prog 74 #[.string s] w fun e w' => e = .returned (.bool (tb (NameOk s))) ∧ w = w' := by
  unfold maxLen at hs
  go_enter Tryz.func74, Tryz.ntmps74
  go_wp2_with fail
  refine (l6In_any _ _ _ _).mono ?_
  rintro e w' ⟨rfl, rfl⟩
  by_cases hz : (1 : Int) ≤ s.size ∧ (s.size : Int) ≤ 8
  · rw [tb_true hz]
    have h0 : 0 < s.size := by omega
    by_cases hl : 97 ≤ (s[0].toNat : Int)
    · by_cases hu : (s[0].toNat : Int) ≤ 122
      · go_wp2
        go_loop [3] (fun i => ∃ k : Nat, k ≤ s.size ∧ i = .int .i64 k ∧ ∀ j (h : j < s.size), j < k → NameAt s j h) (fun i => s.size - (intOf i).toNat)
        case atStart => exact ⟨0, Nat.zero_le _, rfl, fun j h hj => by omega⟩
        case round =>
          obtain ⟨k, hk, rfl, ha⟩ := hrel
          have HA := hide ha
          have HL := hide hl
          have HU := hide hu
          clear ha hl hu
          by_cases hlt : k < s.size
          · go_wp2
            all_goals first
              | (go_ret; exact ⟨ret_bool (by rw [tb_false (fun h => by have := h.2.2 k hlt; unfold NameAt at this; (try simp only [beq_iff_eq, beq_eq_false_iff_ne, Bool.not_eq_true', Bool.not_eq_false', decide_eq_true_eq, decide_eq_false_iff_not] at *); omega)]), rfl⟩)
              | (go_round
                 case rel => exact ⟨k + 1, by omega, by go_num, fun j h hj => by
                   by_cases e : j < k
                   · exact HA.out j h e
                   · obtain rfl : j = k := by omega
                     unfold NameAt
                     by_cases e0 : j = 0
                     · subst e0
                       exact .inl ⟨HL.out, HU.out⟩
                     · (try simp only [beq_iff_eq, beq_eq_false_iff_ne, Bool.not_eq_true', Bool.not_eq_false', decide_eq_true_eq, decide_eq_false_iff_not] at *); omega⟩
                 case measure => simp [intOf]; omega)
          · obtain rfl : k = s.size := by omega
            go_wp2
            go_ret
            exact ⟨ret_bool (by rw [tb_true ⟨by omega, by omega, fun k h => HA.out k h h⟩]), rfl⟩
      · go_wp2
        go_ret
        exact ⟨ret_bool (by rw [tb_false (fun h => by obtain ⟨_, _⟩ := nameOk_first h; omega)]), rfl⟩
    · go_wp2
      go_ret
      exact ⟨ret_bool (by rw [tb_false (fun h => by obtain ⟨_, _⟩ := nameOk_first h; omega)]), rfl⟩
  · rw [tb_false hz]
    go_wp2
    go_ret
    exact ⟨ret_bool (by rw [tb_false (fun h => by have := h.1; have := h.2.1; omega)]), rfl⟩

def NamesAt (l : List ByteArray) (i : Nat) (h : i < l.length) : Prop := NameOk l[i] ∧ (0 < i → Op.bytesLess (l[i - 1]'(by omega)).toList l[i].toList = true)
def NamesOk (l : List ByteArray) : Prop := ∀ i (h : i < l.length), NamesAt l i h

theorem names_step (l : List ByteArray) (k : Nat) (hk : k < l.length) (ha : ∀ j (h : j < l.length), j < k → NamesAt l j h) (hn : NamesAt l k hk) : ∀ j (h : j < l.length), j < k + 1 → NamesAt l j h := fun j h hj => by
  by_cases e : j < k
  · exact ha j h e
  · obtain rfl : j = k := by omega
    exact hn

set_option maxRecDepth 100000 in
theorem areNames_any (l : List ByteArray) (A : Option Addr) (n c : Nat) (fp : List Nat) (w : World) (h : Ow w (.s 1 l.length (l.flatMap strC)) (.slice A n c) fp) :
    Calls Tryz.prog 137 #[.slice A n c] w fun e w' => e = .returned (.bool (tb (NamesOk l))) ∧ w = w' := by
  obtain ⟨rfl, hc, hm⟩ := h.nlen
  unfold maxLen at hm
  go_enter Tryz.func137, Tryz.ntmps137
  go_wp2
  go_loop [7] (fun i => ∃ k : Nat, k ≤ l.length ∧ i = .int .i64 k ∧ ∀ j (h : j < l.length), j < k → NamesAt l j h) (fun i => l.length - (intOf i).toNat)
  case atStart => exact ⟨0, Nat.zero_le _, rfl, fun j h hj => by omega⟩
  case round =>
    obtain ⟨k, hk, rfl, ha⟩ := hrel
    have HA := hide ha
    clear ha
    by_cases hlt : k < l.length
    · obtain ⟨g, off, rfl, _, hcell, hs⟩ := strs_at h hlt
      go_wp2_with fail
      refine (isName_any _ _ hs).mono ?_
      rintro e w' ⟨rfl, rfl⟩
      by_cases hn : NameOk l[k]
      · rw [tb_true hn]
        by_cases h0 : 0 < k
        · obtain ⟨_, _, e1, _, hcell', hs'⟩ := strs_at h (i := k - 1) (by omega)
          injection e1 with e1
          injection e1 with e1 e2
          subst e1 e2
          have h1 : (0 : Int) ≤ (k : Int) - 1 := by omega
          by_cases hb : Op.bytesLess (l[k - 1]'(by omega)).toList l[k].toList = true
          · have HB := hide hb
            go_wp2
            go_round
            case rel => exact ⟨k + 1, by omega, by go_num, names_step l k hlt HA.out ⟨hn, fun _ => HB.out⟩⟩
            case measure => simp [intOf]; omega
          · go_wp2
            go_ret
            exact ⟨ret_bool (by rw [tb_false (fun hh => hb ((hh k hlt).2 h0))]), rfl⟩
        · go_wp2
          go_round
          case rel => exact ⟨k + 1, by omega, by go_num, names_step l k hlt HA.out ⟨hn, fun h => absurd h h0⟩⟩
          case measure => simp [intOf]; omega
      · rw [tb_false hn]
        go_wp2
        go_ret
        exact ⟨ret_bool (by rw [tb_false (fun hh => hn (hh k hlt).1)]), rfl⟩
    · obtain rfl : k = l.length := by omega
      go_wp2
      go_ret
      exact ⟨ret_bool (Eq.symm (tb_true (fun i h => HA.out i h h))), rfl⟩
theorem l6NameOk_yes (s : ByteArray) (w : World) (hs : s.size ≤ maxLen) (h : NameOk s) :
    Calls Tryz.prog 74 #[.string s] w fun e w' => e = .returned (.bool true) ∧ w' = w :=
  (l6NameOk_any s w hs).mono fun e w' ⟨he, hw⟩ => ⟨by rw [he, tb_true h], hw.symm⟩
theorem l6NameOk_no (s : ByteArray) (w : World) (hs : s.size ≤ maxLen) (h : ¬ NameOk s) :
    Calls Tryz.prog 74 #[.string s] w fun e w' => e = .returned (.bool false) ∧ w' = w :=
  (l6NameOk_any s w hs).mono fun e w' ⟨he, hw⟩ => ⟨by rw [he, tb_false h], hw.symm⟩

set_option maxRecDepth 100000 in
theorem l1Rise_any (l : List ByteArray) (A : Option Addr) (n c : Nat) (fp : List Nat) (w : World) (h : Ow w (.s 1 l.length (l.flatMap strC)) (.slice A n c) fp) :
    Calls Tryz.prog 131 #[.slice A n c] w fun e w' => e = .returned (.bool (tb (NamesOk l))) ∧ ∃ q, w.drewN q = w' := by
  obtain ⟨rfl, hc, hm⟩ := h.nlen
  unfold maxLen at hm
  go_enter Tryz.func131, Tryz.ntmps131
  go_wp2
  go_loopw [3] (fun i wr => (∃ k : Nat, k ≤ l.length ∧ i = .int .i64 k ∧ ∀ j (h : j < l.length), j < k → NamesAt l j h) ∧ ∃ q, wr = w.drewN q) (fun i _ => l.length - (intOf i).toNat)
  case atStart => exact ⟨⟨0, Nat.zero_le _, rfl, fun j h hj => by omega⟩, 0, rfl⟩
  case round =>
    obtain ⟨⟨k, hk, rfl, ha⟩, q, rfl⟩ := hrel
    have HA := hide ha
    clear ha
    by_cases hlt : k < l.length
    · obtain ⟨g, off, rfl, _, hcell, hs⟩ := strs_at h hlt
      by_cases hn : NameOk l[k]
      · by_cases h0 : 0 < k
        · obtain ⟨_, _, e1, _, hcell', hs'⟩ := strs_at h (i := k - 1) (by omega)
          injection e1 with e1
          injection e1 with e1 e2
          subst e1 e2
          have h1 : (0 : Int) ≤ (k : Int) - 1 := by omega
          have d0 : decide ((0 : Int) < (k : Int)) = true := by simpa using h0
          by_cases hb : Op.bytesLess (l[k - 1]'(by omega)).toList l[k].toList = true
          · have HB := hide hb
            go_wp2
            go_quiet ((go_at_call 74; exact quiet_add_same (l6NameOk_yes _ _ hs hn)))
            go_wp2
            go_roundw
            case rel => exact ⟨⟨k + 1, by omega, by go_num, names_step l k hlt HA.out ⟨hn, fun _ => HB.out⟩⟩, _, rfl⟩
            case measure => simp [intOf]; omega
          · go_wp2
            go_quiet ((go_at_call 74; exact quiet_add_same (l6NameOk_yes _ _ hs hn)))
            go_wp2
            go_ret
            exact ⟨ret_bool (by rw [tb_false (fun hh => hb ((hh k hlt).2 h0))]), _, (World.drewN_drewN _ _ _).symm⟩
        · have d0 : decide ((0 : Int) < (k : Int)) = false := by simp; omega
          go_wp2
          go_quiet ((go_at_call 74; exact quiet_add_same (l6NameOk_yes _ _ hs hn)))
          go_wp2
          go_roundw
          case rel => exact ⟨⟨k + 1, by omega, by go_num, names_step l k hlt HA.out ⟨hn, fun h => absurd h h0⟩⟩, _, rfl⟩
          case measure => simp [intOf]; omega
      · go_wp2
        go_quiet ((go_at_call 74; exact quiet_add_same (l6NameOk_no _ _ hs hn)))
        go_wp2
        go_ret
        exact ⟨ret_bool (by rw [tb_false (fun hh => hn (hh k hlt).1)]), _, (World.drewN_drewN _ _ _).symm⟩
    · obtain rfl : k = l.length := by omega
      go_wp2
      go_ret
      exact ⟨ret_bool (Eq.symm (tb_true (fun i h => HA.out i h h))), _, rfl⟩
end Go.Proofs.YtnaecdoeldoipaaGreatDoor
set_option linter.unusedVariables false
set_option linter.unusedSimpArgs false
namespace Go.Proofs.YtnaecdoeldoipaaGreatDoor
open Go.ChangeShapes Go.WideShapes Go.ChangeAt Go.RowKit

inductive Tree where
  | mk (sort : Int) (num : Int) (text : ByteArray) (names : List ByteArray) (kids : List Tree)
def Tree.sort : Tree → Int | .mk x _ _ _ _ => x
def Tree.num : Tree → Int | .mk _ x _ _ _ => x
def Tree.text : Tree → ByteArray | .mk _ _ x _ _ => x
def Tree.names : Tree → List ByteArray | .mk _ _ _ x _ => x
def Tree.kids : Tree → List Tree | .mk _ _ _ _ x => x
mutual
def Tree.cells : Tree → List D
  | .mk sort num text names kids => [.v (.int .i64 sort)] ++ [.v (.int .i64 num)] ++ [.v (.string text)] ++ [.s 1 names.length (names.flatMap strC)] ++ [.s 5 kids.length (Tree.cellsS kids)]
def Tree.cellsS : List Tree → List D
  | [] => []
  | x :: r => x.cells ++ Tree.cellsS r
end
mutual
def Tree.bulk : Tree → Nat
  | .mk sort num text names kids => text.size + bulkStrs names + kids.length + Tree.bulkS kids
def Tree.bulkS : List Tree → Nat
  | [] => 0
  | x :: r => x.bulk + Tree.bulkS r
end
theorem Tree.cellsS_flat : ∀ (l : List Tree), Tree.cellsS l = l.flatMap Tree.cells
  | [] => rfl
  | x :: r => by simp [Tree.cellsS, Tree.cellsS_flat r]
theorem Tree.cells_eq (x : Tree) : x.cells = [.v (.int .i64 x.sort), .v (.int .i64 x.num), .v (.string x.text), .s 1 x.names.length (x.names.flatMap strC), .s 5 x.kids.length (x.kids.flatMap Tree.cells)] := by
  cases x; simp [Tree.cells, Tree.sort, Tree.num, Tree.text, Tree.names, Tree.kids, Tree.cellsS_flat]
theorem Tree.bulk_eq (x : Tree) : x.bulk = x.text.size + bulkStrs x.names + x.kids.length + Tree.bulkS x.kids := by cases x; rfl
theorem Tree.ind {P : Tree → Prop} (h : ∀ k, (∀ x ∈ k.kids, P x) → P k) : ∀ k, P k
  | .mk sort num text names kids => h _ fun x hx => Tree.ind h x
termination_by k => SizeOf.sizeOf k
decreasing_by
  simp only [Tree.kids] at hx
  have := List.sizeOf_lt_of_mem hx
  simp only [Tree.mk.sizeOf_spec]
  omega
theorem Tree.cells_len (x : Tree) : x.cells.length = 5 := by rw [Tree.cells_eq]; rfl
def Tree.bulkL (l : List Tree) : Nat := l.length + Tree.bulkS l
theorem Tree.bulkS_append (a b : List Tree) : Tree.bulkS (a ++ b) = Tree.bulkS a + Tree.bulkS b := by
  induction a with
  | nil => simp [Tree.bulkS]
  | cons x a ih => simp [Tree.bulkS, ih]; omega
theorem Tree.bulkS_snoc (l : List Tree) (k : Nat) (h : k < l.length) : Tree.bulkS (l.take (k + 1)) = Tree.bulkS (l.take k) + l[k].bulk := by
  rw [List.take_succ_eq_append_getElem h, Tree.bulkS_append]
  simp [Tree.bulkS]
theorem Tree.bulkS_le (l : List Tree) (k : Nat) : Tree.bulkS (l.take k) ≤ Tree.bulkS l := by
  conv => rhs; rw [← List.take_append_drop k l, Tree.bulkS_append]
  omega
theorem Tree.bulk_at (l : List Tree) (k : Nat) (h : k < l.length) : l[k].bulk ≤ Tree.bulkS l := by
  have h1 := Tree.bulkS_snoc l k h
  have h2 := Tree.bulkS_le l (k + 1)
  omega
theorem OwC.oTree {w : World} {x : Tree} {us : List Value} {fp : List Nat} (h : OwC w x.cells us fp) :
    ∃ A1 c1 A2 c2 f1 f2, us = [.int .i64 x.sort, .int .i64 x.num, .string x.text, .slice A1 x.names.length c1, .slice A2 x.kids.length c2] ∧ (Lit.int .i64 x.sort).wf = true ∧ (Lit.int .i64 x.num).wf = true ∧ x.text.size ≤ maxLen ∧ Ow w (.s 1 x.names.length (x.names.flatMap strC)) (.slice A1 x.names.length c1) f1 ∧ Ow w (.s 5 x.kids.length (x.kids.flatMap Tree.cells)) (.slice A2 x.kids.length c2) f2 ∧ fp = f1 ++ (f2) := by
  rw [Tree.cells_eq] at h
  match us, OwC.length _ h with
  | [u0, u1, u2, u3, u4], _ =>
    simp only [OwC] at h
    obtain ⟨g0, _, h0, ⟨g1, _, h1, ⟨g2, _, h2, ⟨g3, _, h3, ⟨g4, _, h4, rfl, rfl⟩, rfl⟩, rfl⟩, rfl⟩, rfl⟩ := h
    simp only [Ow, okAtom] at h0
    obtain ⟨rfl, w0, rfl⟩ := h0
    simp only [Ow, okAtom] at h1
    obtain ⟨rfl, w1, rfl⟩ := h1
    simp only [Ow, okAtom] at h2
    obtain ⟨rfl, w2, rfl⟩ := h2
    obtain ⟨A1, c1, rfl, _⟩ := h3.slice
    obtain ⟨A2, c2, rfl, _⟩ := h4.slice
    exact ⟨A1, c1, A2, c2, g3, g4, rfl, w0, w1, w2, h3, h4, by simp⟩
theorem OwC.mTree {w : World} {x : Tree} {v1 v2 : Value} {f1 f2 : List Nat} (w0 : (Lit.int .i64 x.sort).wf = true) (w1 : (Lit.int .i64 x.num).wf = true) (w2 : x.text.size ≤ maxLen) (h3 : Ow w (.s 1 x.names.length (x.names.flatMap strC)) v1 f1) (h4 : Ow w (.s 5 x.kids.length (x.kids.flatMap Tree.cells)) v2 f2) :
    OwC w x.cells [.int .i64 x.sort, .int .i64 x.num, .string x.text, v1, v2] (f1 ++ (f2)) := by
  have h : OwC w x.cells [.int .i64 x.sort, .int .i64 x.num, .string x.text, v1, v2] ([] ++ ([] ++ ([] ++ (f1 ++ (f2 ++ ([])))))) := by
    rw [Tree.cells_eq]
    exact ⟨_, _, ⟨rfl, w0, rfl⟩, ⟨_, _, ⟨rfl, w1, rfl⟩, ⟨_, _, ⟨rfl, w2, rfl⟩, ⟨_, _, h3, ⟨_, _, h4, rfl, rfl⟩, rfl⟩, rfl⟩, rfl⟩, rfl⟩
  simpa using h
end Go.Proofs.YtnaecdoeldoipaaGreatDoor
