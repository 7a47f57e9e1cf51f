/-
  The laws' own helpers on slices of texts, of numbers and of bytes: their size, a copy, equality. Names: the program's isName, areNames and the reference's l6NameOk, l1Rise answer alike. The bytes of texts, names, and what a reader takes: plain. Tree as data: its cells, its size. Tree: what the laws' own helpers do: the size, a copy, equality. Kind as data: its cells, its size. Kind: what the laws' own helpers do: the size, a copy, equality. Schemas that are ok: the program's look and the reference's l2Parts answer alike. Schemas that are ok: what the reference's l2Parts answers; the law on KindOk. Schemas: the program's KindOk and the reference's answer alike. The kids of a schema: their sizes, and that they are good. From the form's reading of an argument to the words of the walks.
-/
import Derived.Test.YtnaecdoeldoipaaGreatDoorProg
import Derived.Test.YtnaecdoeldoipaaGreatDoorQTxt
set_option linter.unusedVariables false
set_option linter.unusedSimpArgs false
namespace Go.Proofs.YtnaecdoeldoipaaGreatDoor
open Go.ChangeShapes Go.WideShapes Go.ChangeAt Go.RowKit

def strC (s : ByteArray) : List D := [.v (.string s)]
def intC (n : Int) : List D := [.v (.int .i64 n)]
def byteC (b : UInt8) : List D := [.v (.int .u8 b.toNat)]
theorem strC_len (s : ByteArray) : (strC s).length = 1 := rfl
theorem byteC_len (b : UInt8) : (byteC b).length = 1 := rfl
def bulkStr : List ByteArray → Nat
  | [] => 0
  | s :: l => s.size + bulkStr l
def bulkStrs (l : List ByteArray) : Nat := l.length + bulkStr l
theorem bulkStr_append (a b : List ByteArray) : bulkStr (a ++ b) = bulkStr a + bulkStr b := by
  induction a with
  | nil => simp [bulkStr]
  | cons x a ih => simp [bulkStr, ih]; omega
theorem OwC.str {w : World} {s : ByteArray} {us : List Value} {fp : List Nat} (h : OwC w (strC s) us fp) : us = [.string s] ∧ (s.size ≤ maxLen) ∧ fp = [] := by
  match us, OwC.length _ h with
  | [u], _ =>
    obtain ⟨f1, f2, h1, h2, rfl⟩ := h
    simp only [Ow, okAtom] at h1
    obtain ⟨rfl, h3, rfl⟩ := h1
    simp only [OwC] at h2
    subst h2
    exact ⟨rfl, h3, rfl⟩
/-- the element at a place -/
theorem strs_at {w : World} {l : List ByteArray} {A : Option Addr} {n c : Nat} {fp : List Nat} (h : Ow w (.s 1 l.length (l.flatMap strC)) (.slice A n c) fp) {i : Nat} (hi : i < l.length) :
    ∃ g off, A = some ⟨g, off, none⟩ ∧ g ∈ fp ∧ w.cell? ⟨g, off + i, none⟩ = some (.string l[i]) ∧ (l[i].size ≤ maxLen) := by
  obtain ⟨g, off, us, fi, rfl, hg, _, hl, hc, ho⟩ := h.elem strC_len hi
  obtain ⟨rfl, hs, _⟩ := ho.str
  have := hc 0 _ rfl
  exact ⟨g, off, rfl, hg, by simpa using this, hs⟩
theorem OwC.int {w : World} {s : Int} {us : List Value} {fp : List Nat} (h : OwC w (intC s) us fp) : us = [.int .i64 s] ∧ ((Lit.int .i64 s).wf = true) ∧ fp = [] := by
  match us, OwC.length _ h with
  | [u], _ =>
    obtain ⟨f1, f2, h1, h2, rfl⟩ := h
    simp only [Ow, okAtom] at h1
    obtain ⟨rfl, h3, rfl⟩ := h1
    simp only [OwC] at h2
    subst h2
    exact ⟨rfl, h3, rfl⟩
theorem OwC.byte {w : World} {s : UInt8} {us : List Value} {fp : List Nat} (h : OwC w (byteC s) us fp) : us = [.int .u8 s.toNat] ∧ (True) ∧ fp = [] := by
  match us, OwC.length _ h with
  | [u], _ =>
    obtain ⟨f1, f2, h1, h2, rfl⟩ := h
    simp only [Ow, okAtom] at h1
    obtain ⟨rfl, h3, rfl⟩ := h1
    simp only [OwC] at h2
    subst h2
    exact ⟨rfl, trivial, rfl⟩
/-- the element at a place -/
theorem bytes_at {w : World} {l : List UInt8} {A : Option Addr} {n c : Nat} {fp : List Nat} (h : Ow w (.s 1 l.length (l.flatMap byteC)) (.slice A n c) fp) {i : Nat} (hi : i < l.length) :
    ∃ g off, A = some ⟨g, off, none⟩ ∧ g ∈ fp ∧ w.cell? ⟨g, off + i, none⟩ = some (.int .u8 l[i].toNat) ∧ (True) := by
  obtain ⟨g, off, us, fi, rfl, hg, _, hl, hc, ho⟩ := h.elem byteC_len hi
  obtain ⟨rfl, hs, _⟩ := ho.byte
  have := hc 0 _ rfl
  exact ⟨g, off, rfl, hg, by simpa using this, hs⟩
theorem info_string : (Tryz.prog.info? 9).map (fun i => (i.zero, i.size, i.bytes)) = some (some (.string .empty), 1, 16) := by kernel_rfl

theorem wrapI (x : Int) (h1 : -9223372036854775808 ≤ x) (h2 : x ≤ 9223372036854775807) : IntKind.i64.wrap x = x := by
  rw [IntKind.wrap_i64]
  omega
end Go.Proofs.YtnaecdoeldoipaaGreatDoor
set_option linter.unusedVariables false
set_option linter.unusedSimpArgs false
namespace Go.Proofs.YtnaecdoeldoipaaGreatDoor
open Go.ChangeShapes Go.WideShapes Go.ChangeAt Go.RowKit

/-- A proposition as a Bool. -/
noncomputable def tb (p : Prop) : Bool := @decide p (Classical.propDecidable p)
theorem tb_true {p : Prop} (h : p) : tb p = true := by simp [tb, h]
theorem tb_false {p : Prop} (h : ¬ p) : tb p = false := by simp [tb, h]

def NameAt (s : ByteArray) (k : Nat) (h : k < s.size) : Prop := (97 ≤ (s[k].toNat : Int) ∧ (s[k].toNat : Int) ≤ 122) ∨ (48 ≤ (s[k].toNat : Int) ∧ (s[k].toNat : Int) ≤ 57 ∧ k ≠ 0)
def NameOk (s : ByteArray) : Prop := 1 ≤ s.size ∧ s.size ≤ 8 ∧ ∀ k (h : k < s.size), NameAt s k h

theorem inRange_any (n lo hi : Int) (w : World) :
    Calls Tryz.prog 82 #[.int .i64 n, .int .i64 lo, .int .i64 hi] w fun e w' => e = .returned (.bool (tb (lo ≤ n ∧ n ≤ hi))) ∧ w = w' := by
  by_cases h1 : lo ≤ n
  · by_cases h2 : n ≤ hi
    · go_enter Tryz.func82, Tryz.ntmps82
      go_wp2
      go_ret
      exact ⟨ret_bool (by rw [tb_true ⟨h1, h2⟩]), rfl⟩
    · go_enter Tryz.func82, Tryz.ntmps82
      go_wp2
      go_ret
      exact ⟨ret_bool (by rw [tb_false (by omega)]), rfl⟩
  · go_enter Tryz.func82, Tryz.ntmps82
    go_wp2
    go_ret
    exact ⟨ret_bool (by rw [tb_false (by omega)]), rfl⟩

set_option maxRecDepth 100000 in
theorem isName_any (s : ByteArray) (w : World) (hs : s.size ≤ maxLen) :
    Calls Tryz.prog 81 #[.string s] w fun e w' => e = .returned (.bool (tb (NameOk s))) ∧ w = w' := by
  unfold maxLen at hs
  go_enter Tryz.func81, Tryz.ntmps81
  go_wp2
  go_loop [7] (fun i => ∃ k : Nat, k ≤ s.size ∧ i = .int .i64 k ∧ ∀ j (h : j < s.size), j < k → NameAt s j h) (fun i => s.size - (intOf i).toNat)
  case atStart => exact ⟨0, Nat.zero_le _, rfl, fun j h hj => by omega⟩
  case round =>
    obtain ⟨k, hk, rfl, ha⟩ := hrel
    have HA := hide ha
    clear ha
    by_cases hlt : k < s.size
    · go_wp2
      all_goals first
        | (go_ret; exact ⟨ret_bool (by rw [tb_false (fun h => by have := h.2.2 k hlt; unfold NameAt at this; (try simp only [beq_iff_eq, beq_eq_false_iff_ne, Bool.not_eq_true', Bool.not_eq_false', decide_eq_true_eq, decide_eq_false_iff_not] at *); omega)]), rfl⟩)
        | (go_round
           case rel => exact ⟨k + 1, by omega, by go_num, fun j h hj => by
             by_cases e : j < k
             · exact HA.out j h e
             · obtain rfl : j = k := by omega
               unfold NameAt
               (try simp only [beq_iff_eq, beq_eq_false_iff_ne, Bool.not_eq_true', Bool.not_eq_false', decide_eq_true_eq, decide_eq_false_iff_not] at *); omega⟩
           case measure => simp [intOf]; omega)
    · obtain rfl : k = s.size := by omega
      go_wp2_with fail
      refine (inRange_any _ _ _ _).mono ?_
      rintro e w' ⟨rfl, rfl⟩
      go_wp2
      go_ret
      refine ⟨ret_bool ?_, rfl⟩
      congr 1
      apply propext
      unfold NameOk
      constructor
      · intro h; exact ⟨by omega, by omega, fun k h => HA.out k h h⟩
      · intro h; omega

theorem l6In_any (n lo hi : Int) (w : World) :
    Calls Tryz.prog 75 #[.int .i64 n, .int .i64 lo, .int .i64 hi] w fun e w' => e = .returned (.bool (tb (lo ≤ n ∧ n ≤ hi))) ∧ w = w' := by
  by_cases h1 : lo ≤ n
  · by_cases h2 : n ≤ hi
    · go_enter Tryz.func75, Tryz.ntmps75
      go_wp2
      go_ret
      exact ⟨ret_bool (by rw [tb_true ⟨h1, h2⟩]), rfl⟩
    · go_enter Tryz.func75, Tryz.ntmps75
      go_wp2
      go_ret
      exact ⟨ret_bool (by rw [tb_false (by omega)]), rfl⟩
  · go_enter Tryz.func75, Tryz.ntmps75
    go_wp2
    go_ret
    exact ⟨ret_bool (by rw [tb_false (by omega)]), rfl⟩

theorem nameOk_first {s : ByteArray} (h : NameOk s) : ∃ h0 : 0 < s.size, 97 ≤ (s[0].toNat : Int) ∧ (s[0].toNat : Int) ≤ 122 := by
  have h0 : 0 < s.size := by have := h.1; omega
  have := h.2.2 0 h0
  unfold NameAt at this
  exact ⟨h0, by omega⟩

set_option maxRecDepth 100000 in
theorem l6NameOk_any (s : ByteArray) (w : World) (hs : s.size ≤ maxLen) :
    Calls Tryz.prog 74 #[.string s] w fun e w' => e = .returned (.bool (tb (NameOk s))) ∧ w = w' := by
  unfold maxLen at hs
  go_enter Tryz.func74, Tryz.ntmps74
  go_wp2_with fail
  refine (l6In_any _ _ _ _).mono ?_
  rintro e w' ⟨rfl, rfl⟩
  by_cases hz : (1 : Int) ≤ s.size ∧ (s.size : Int) ≤ 8
  · rw [tb_true hz]
    have h0 : 0 < s.size := by omega
    by_cases hl : 97 ≤ (s[0].toNat : Int)
    · by_cases hu : (s[0].toNat : Int) ≤ 122
      · go_wp2
        go_loop [3] (fun i => ∃ k : Nat, k ≤ s.size ∧ i = .int .i64 k ∧ ∀ j (h : j < s.size), j < k → NameAt s j h) (fun i => s.size - (intOf i).toNat)
        case atStart => exact ⟨0, Nat.zero_le _, rfl, fun j h hj => by omega⟩
        case round =>
          obtain ⟨k, hk, rfl, ha⟩ := hrel
          have HA := hide ha
          have HL := hide hl
          have HU := hide hu
          clear ha hl hu
          by_cases hlt : k < s.size
          · go_wp2
            all_goals first
              | (go_ret; exact ⟨ret_bool (by rw [tb_false (fun h => by have := h.2.2 k hlt; unfold NameAt at this; (try simp only [beq_iff_eq, beq_eq_false_iff_ne, Bool.not_eq_true', Bool.not_eq_false', decide_eq_true_eq, decide_eq_false_iff_not] at *); omega)]), rfl⟩)
              | (go_round
                 case rel => exact ⟨k + 1, by omega, by go_num, fun j h hj => by
                   by_cases e : j < k
                   · exact HA.out j h e
                   · obtain rfl : j = k := by omega
                     unfold NameAt
                     by_cases e0 : j = 0
                     · subst e0
                       exact .inl ⟨HL.out, HU.out⟩
                     · (try simp only [beq_iff_eq, beq_eq_false_iff_ne, Bool.not_eq_true', Bool.not_eq_false', decide_eq_true_eq, decide_eq_false_iff_not] at *); omega⟩
                 case measure => simp [intOf]; omega)
          · obtain rfl : k = s.size := by omega
            go_wp2
            go_ret
            exact ⟨ret_bool (by rw [tb_true ⟨by omega, by omega, fun k h => HA.out k h h⟩]), rfl⟩
      · go_wp2
        go_ret
        exact ⟨ret_bool (by rw [tb_false (fun h => by obtain ⟨_, _⟩ := nameOk_first h; omega)]), rfl⟩
    · go_wp2
      go_ret
      exact ⟨ret_bool (by rw [tb_false (fun h => by obtain ⟨_, _⟩ := nameOk_first h; omega)]), rfl⟩
  · rw [tb_false hz]
    go_wp2
    go_ret
    exact ⟨ret_bool (by rw [tb_false (fun h => by have := h.1; have := h.2.1; omega)]), rfl⟩

def NamesAt (l : List ByteArray) (i : Nat) (h : i < l.length) : Prop := NameOk l[i] ∧ (0 < i → Op.bytesLess (l[i - 1]'(by omega)).toList l[i].toList = true)
def NamesOk (l : List ByteArray) : Prop := ∀ i (h : i < l.length), NamesAt l i h

theorem names_step (l : List ByteArray) (k : Nat) (hk : k < l.length) (ha : ∀ j (h : j < l.length), j < k → NamesAt l j h) (hn : NamesAt l k hk) : ∀ j (h : j < l.length), j < k + 1 → NamesAt l j h := fun j h hj => by
  by_cases e : j < k
  · exact ha j h e
  · obtain rfl : j = k := by omega
    exact hn

set_option maxRecDepth 100000 in
theorem areNames_any (l : List ByteArray) (A : Option Addr) (n c : Nat) (fp : List Nat) (w : World) (h : Ow w (.s 1 l.length (l.flatMap strC)) (.slice A n c) fp) :
    Calls Tryz.prog 137 #[.slice A n c] w fun e w' => e = .returned (.bool (tb (NamesOk l))) ∧ w = w' := by
  obtain ⟨rfl, hc, hm⟩ := h.nlen
  unfold maxLen at hm
  go_enter Tryz.func137, Tryz.ntmps137
  go_wp2
  go_loop [7] (fun i => ∃ k : Nat, k ≤ l.length ∧ i = .int .i64 k ∧ ∀ j (h : j < l.length), j < k → NamesAt l j h) (fun i => l.length - (intOf i).toNat)
  case atStart => exact ⟨0, Nat.zero_le _, rfl, fun j h hj => by omega⟩
  case round =>
    obtain ⟨k, hk, rfl, ha⟩ := hrel
    have HA := hide ha
    clear ha
    by_cases hlt : k < l.length
    · obtain ⟨g, off, rfl, _, hcell, hs⟩ := strs_at h hlt
      go_wp2_with fail
      refine (isName_any _ _ hs).mono ?_
      rintro e w' ⟨rfl, rfl⟩
      by_cases hn : NameOk l[k]
      · rw [tb_true hn]
        by_cases h0 : 0 < k
        · obtain ⟨_, _, e1, _, hcell', hs'⟩ := strs_at h (i := k - 1) (by omega)
          injection e1 with e1
          injection e1 with e1 e2
          subst e1 e2
          have h1 : (0 : Int) ≤ (k : Int) - 1 := by omega
          by_cases hb : Op.bytesLess (l[k - 1]'(by omega)).toList l[k].toList = true
          · have HB := hide hb
            go_wp2
            go_round
            case rel => exact ⟨k + 1, by omega, by go_num, names_step l k hlt HA.out ⟨hn, fun _ => HB.out⟩⟩
            case measure => simp [intOf]; omega
          · go_wp2
            go_ret
            exact ⟨ret_bool (by rw [tb_false (fun hh => hb ((hh k hlt).2 h0))]), rfl⟩
        · go_wp2
          go_round
          case rel => exact ⟨k + 1, by omega, by go_num, names_step l k hlt HA.out ⟨hn, fun h => absurd h h0⟩⟩
          case measure => simp [intOf]; omega
      · rw [tb_false hn]
        go_wp2
        go_ret
        exact ⟨ret_bool (by rw [tb_false (fun hh => hn (hh k hlt).1)]), rfl⟩
    · obtain rfl : k = l.length := by omega
      go_wp2
      go_ret
      exact ⟨ret_bool (Eq.symm (tb_true (fun i h => HA.out i h h))), rfl⟩
theorem l6NameOk_yes (s : ByteArray) (w : World) (hs : s.size ≤ maxLen) (h : NameOk s) :
    Calls Tryz.prog 74 #[.string s] w fun e w' => e = .returned (.bool true) ∧ w' = w :=
  (l6NameOk_any s w hs).mono fun e w' ⟨he, hw⟩ => ⟨by rw [he, tb_true h], hw.symm⟩
theorem l6NameOk_no (s : ByteArray) (w : World) (hs : s.size ≤ maxLen) (h : ¬ NameOk s) :
    Calls Tryz.prog 74 #[.string s] w fun e w' => e = .returned (.bool false) ∧ w' = w :=
  (l6NameOk_any s w hs).mono fun e w' ⟨he, hw⟩ => ⟨by rw [he, tb_false h], hw.symm⟩

set_option maxRecDepth 100000 in
theorem l1Rise_any (l : List ByteArray) (A : Option Addr) (n c : Nat) (fp : List Nat) (w : World) (h : Ow w (.s 1 l.length (l.flatMap strC)) (.slice A n c) fp) :
    Calls Tryz.prog 131 #[.slice A n c] w fun e w' => e = .returned (.bool (tb (NamesOk l))) ∧ ∃ q, w.drewN q = w' := by
  obtain ⟨rfl, hc, hm⟩ := h.nlen
  unfold maxLen at hm
  go_enter Tryz.func131, Tryz.ntmps131
  go_wp2
  go_loopw [3] (fun i wr => (∃ k : Nat, k ≤ l.length ∧ i = .int .i64 k ∧ ∀ j (h : j < l.length), j < k → NamesAt l j h) ∧ ∃ q, wr = w.drewN q) (fun i _ => l.length - (intOf i).toNat)
  case atStart => exact ⟨⟨0, Nat.zero_le _, rfl, fun j h hj => by omega⟩, 0, rfl⟩
  case round =>
    obtain ⟨⟨k, hk, rfl, ha⟩, q, rfl⟩ := hrel
    have HA := hide ha
    clear ha
    by_cases hlt : k < l.length
    · obtain ⟨g, off, rfl, _, hcell, hs⟩ := strs_at h hlt
      by_cases hn : NameOk l[k]
      · by_cases h0 : 0 < k
        · obtain ⟨_, _, e1, _, hcell', hs'⟩ := strs_at h (i := k - 1) (by omega)
          injection e1 with e1
          injection e1 with e1 e2
          subst e1 e2
          have h1 : (0 : Int) ≤ (k : Int) - 1 := by omega
          have d0 : decide ((0 : Int) < (k : Int)) = true := by simpa using h0
          by_cases hb : Op.bytesLess (l[k - 1]'(by omega)).toList l[k].toList = true
          · have HB := hide hb
            go_wp2
            go_quiet ((go_at_call 74; exact quiet_add_same (l6NameOk_yes _ _ hs hn)))
            go_wp2
            go_roundw
            case rel => exact ⟨⟨k + 1, by omega, by go_num, names_step l k hlt HA.out ⟨hn, fun _ => HB.out⟩⟩, _, rfl⟩
            case measure => simp [intOf]; omega
          · go_wp2
            go_quiet ((go_at_call 74; exact quiet_add_same (l6NameOk_yes _ _ hs hn)))
            go_wp2
            go_ret
            exact ⟨ret_bool (by rw [tb_false (fun hh => hb ((hh k hlt).2 h0))]), _, (World.drewN_drewN _ _ _).symm⟩
        · have d0 : decide ((0 : Int) < (k : Int)) = false := by simp; omega
          go_wp2
          go_quiet ((go_at_call 74; exact quiet_add_same (l6NameOk_yes _ _ hs hn)))
          go_wp2
          go_roundw
          case rel => exact ⟨⟨k + 1, by omega, by go_num, names_step l k hlt HA.out ⟨hn, fun h => absurd h h0⟩⟩, _, rfl⟩
          case measure => simp [intOf]; omega
      · go_wp2
        go_quiet ((go_at_call 74; exact quiet_add_same (l6NameOk_no _ _ hs hn)))
        go_wp2
        go_ret
        exact ⟨ret_bool (by rw [tb_false (fun hh => hn (hh k hlt).1)]), _, (World.drewN_drewN _ _ _).symm⟩
    · obtain rfl : k = l.length := by omega
      go_wp2
      go_ret
      exact ⟨ret_bool (Eq.symm (tb_true (fun i h => HA.out i h h))), _, rfl⟩
end Go.Proofs.YtnaecdoeldoipaaGreatDoor
set_option linter.unusedVariables false
set_option linter.unusedSimpArgs false
namespace Go.Proofs.YtnaecdoeldoipaaGreatDoor
open Go.ChangeShapes Go.WideShapes Go.ChangeAt Go.RowKit

/-- the bytes of a text -/
def bl (b : ByteArray) : List UInt8 := b.data.toList
theorem bl_app (a b : ByteArray) : bl (a ++ b) = bl a ++ bl b := by simp [bl, ByteArray.data_append]
theorem bl_nil : bl .empty = [] := rfl
theorem bl_mk (l : List UInt8) : bl ⟨l.toArray⟩ = l := by simp [bl]
theorem bl_len (b : ByteArray) : (bl b).length = b.size := by simp [bl]
theorem bl_inj {a b : ByteArray} (h : bl a = bl b) : a = b := ByteArray.ext (Array.toList_inj.1 h)
theorem bl_get (b : ByteArray) (i : Nat) (h : i < b.size) : (bl b)[i]'(by rw [bl_len]; exact h) = b[i] := by simp [bl]; rfl
def nameCh (c : UInt8) : Bool := (decide (97 ≤ c.toNat) && decide (c.toNat ≤ 122)) || (decide (48 ≤ c.toNat) && decide (c.toNat ≤ 57))
theorem nameCh_at {s : ByteArray} {k : Nat} {h : k < s.size} (ha : NameAt s k h) : nameCh s[k] = true := by
  unfold NameAt at ha
  simp only [nameCh, Bool.or_eq_true, Bool.and_eq_true, decide_eq_true_eq]
  omega
theorem nameOk_chars {s : ByteArray} (h : NameOk s) : (bl s).all nameCh = true := by
  rw [List.all_eq_true]
  intro x hx
  obtain ⟨i, hi, rfl⟩ := List.getElem_of_mem hx
  rw [bl_len] at hi
  rw [bl_get s i hi]
  exact nameCh_at (h.2.2 i hi)
theorem nameOk_head {s : ByteArray} (h : NameOk s) : ∃ c r, bl s = c :: r ∧ nameCh c = true := by
  have hc := nameOk_chars h
  have hl := bl_len s
  have h1 := h.1
  match hb : bl s with
  | [] => rw [hb] at hl; simp at hl; omega
  | c :: r => rw [hb] at hc; simp at hc; exact ⟨c, r, rfl, hc.1⟩
theorem nameCh_not {c d : UInt8} (h : nameCh c = true) (hd : nameCh d = false) : c ≠ d := fun e => by subst e; rw [h] at hd; cases hd

/-- a text that comes next is taken -/
def Eaten (u l : List UInt8) (ok : Bool) (l' : List UInt8) : Prop := (ok = true ∧ l = u ++ l') ∨ (ok = false ∧ l' = l ∧ ∀ r, l ≠ u ++ r)
theorem Eaten.yes {u l l' r : List UInt8} {ok : Bool} (h : Eaten u l ok l') (e : l = u ++ r) : ok = true ∧ l' = r := by
  rcases h with ⟨rfl, h⟩ | ⟨_, _, h⟩
  · exact ⟨rfl, List.append_cancel_left (h.symm.trans e)⟩
  · exact absurd e (h r)
theorem Eaten.le {u l l' : List UInt8} {ok : Bool} (h : Eaten u l ok l') : l'.length ≤ l.length := by
  rcases h with ⟨_, h⟩ | ⟨_, h, _⟩
  · rw [h, List.length_append]; omega
  · rw [h]; exact Nat.le_refl _
theorem Eaten.lt {u l l' : List UInt8} (h : Eaten u l true l') : l'.length + u.length = l.length := by
  rcases h with ⟨_, h⟩ | ⟨h, _⟩
  · rw [h, List.length_append]; omega
  · cases h
theorem Eaten.no {u l l' : List UInt8} (h : Eaten u l false l') : l' = l ∧ ∀ r, l ≠ u ++ r := by
  rcases h with ⟨h, _⟩ | ⟨_, h⟩
  · cases h
  · exact h
/-- a name is taken, and what follows it stays -/
def Named (l : List UInt8) (x : ByteArray) (l' : List UInt8) : Prop := l = bl x ++ l' ∧ ∀ n r, NameOk n → l = bl n ++ 58 :: r → x = n ∧ l' = 58 :: r
end Go.Proofs.YtnaecdoeldoipaaGreatDoor
set_option linter.unusedVariables false
set_option linter.unusedSimpArgs false
namespace Go.Proofs.YtnaecdoeldoipaaGreatDoor
open Go.ChangeShapes Go.WideShapes Go.ChangeAt Go.RowKit

inductive Tree where
  | mk (sort : Int) (num : Int) (text : ByteArray) (names : List ByteArray) (kids : List Tree)
def Tree.sort : Tree → Int | .mk x _ _ _ _ => x
def Tree.num : Tree → Int | .mk _ x _ _ _ => x
def Tree.text : Tree → ByteArray | .mk _ _ x _ _ => x
def Tree.names : Tree → List ByteArray | .mk _ _ _ x _ => x
def Tree.kids : Tree → List Tree | .mk _ _ _ _ x => x
mutual
def Tree.cells : Tree → List D
  | .mk sort num text names kids => [.v (.int .i64 sort)] ++ [.v (.int .i64 num)] ++ [.v (.string text)] ++ [.s 1 names.length (names.flatMap strC)] ++ [.s 5 kids.length (Tree.cellsS kids)]
def Tree.cellsS : List Tree → List D
  | [] => []
  | x :: r => x.cells ++ Tree.cellsS r
end
mutual
def Tree.bulk : Tree → Nat
  | .mk sort num text names kids => text.size + bulkStrs names + kids.length + Tree.bulkS kids
def Tree.bulkS : List Tree → Nat
  | [] => 0
  | x :: r => x.bulk + Tree.bulkS r
end
theorem Tree.cellsS_flat : ∀ (l : List Tree), Tree.cellsS l = l.flatMap Tree.cells
  | [] => rfl
  | x :: r => by simp [Tree.cellsS, Tree.cellsS_flat r]
theorem Tree.cells_eq (x : Tree) : x.cells = [.v (.int .i64 x.sort), .v (.int .i64 x.num), .v (.string x.text), .s 1 x.names.length (x.names.flatMap strC), .s 5 x.kids.length (x.kids.flatMap Tree.cells)] := by
  cases x; simp [Tree.cells, Tree.sort, Tree.num, Tree.text, Tree.names, Tree.kids, Tree.cellsS_flat]
theorem Tree.bulk_eq (x : Tree) : x.bulk = x.text.size + bulkStrs x.names + x.kids.length + Tree.bulkS x.kids := by cases x; rfl
theorem Tree.ind {P : Tree → Prop} (h : ∀ k, (∀ x ∈ k.kids, P x) → P k) : ∀ k, P k
  | .mk sort num text names kids => h _ fun x hx => Tree.ind h x
termination_by k => SizeOf.sizeOf k
decreasing_by
  simp only [Tree.kids] at hx
  have := List.sizeOf_lt_of_mem hx
  simp only [Tree.mk.sizeOf_spec]
  omega
theorem Tree.cells_len (x : Tree) : x.cells.length = 5 := by rw [Tree.cells_eq]; rfl
def Tree.bulkL (l : List Tree) : Nat := l.length + Tree.bulkS l
theorem Tree.bulkS_append (a b : List Tree) : Tree.bulkS (a ++ b) = Tree.bulkS a + Tree.bulkS b := by
  induction a with
  | nil => simp [Tree.bulkS]
  | cons x a ih => simp [Tree.bulkS, ih]; omega
theorem Tree.bulkS_snoc (l : List Tree) (k : Nat) (h : k < l.length) : Tree.bulkS (l.take (k + 1)) = Tree.bulkS (l.take k) + l[k].bulk := by
  rw [List.take_succ_eq_append_getElem h, Tree.bulkS_append]
  simp [Tree.bulkS]
theorem Tree.bulkS_le (l : List Tree) (k : Nat) : Tree.bulkS (l.take k) ≤ Tree.bulkS l := by
  conv => rhs; rw [← List.take_append_drop k l, Tree.bulkS_append]
  omega
theorem Tree.bulk_at (l : List Tree) (k : Nat) (h : k < l.length) : l[k].bulk ≤ Tree.bulkS l := by
  have h1 := Tree.bulkS_snoc l k h
  have h2 := Tree.bulkS_le l (k + 1)
  omega
theorem OwC.oTree {w : World} {x : Tree} {us : List Value} {fp : List Nat} (h : OwC w x.cells us fp) :
    ∃ A1 c1 A2 c2 f1 f2, us = [.int .i64 x.sort, .int .i64 x.num, .string x.text, .slice A1 x.names.length c1, .slice A2 x.kids.length c2] ∧ (Lit.int .i64 x.sort).wf = true ∧ (Lit.int .i64 x.num).wf = true ∧ x.text.size ≤ maxLen ∧ Ow w (.s 1 x.names.length (x.names.flatMap strC)) (.slice A1 x.names.length c1) f1 ∧ Ow w (.s 5 x.kids.length (x.kids.flatMap Tree.cells)) (.slice A2 x.kids.length c2) f2 ∧ fp = f1 ++ (f2) := by
  rw [Tree.cells_eq] at h
  match us, OwC.length _ h with
  | [u0, u1, u2, u3, u4], _ =>
    simp only [OwC] at h
    obtain ⟨g0, _, h0, ⟨g1, _, h1, ⟨g2, _, h2, ⟨g3, _, h3, ⟨g4, _, h4, rfl, rfl⟩, rfl⟩, rfl⟩, rfl⟩, rfl⟩ := h
    simp only [Ow, okAtom] at h0
    obtain ⟨rfl, w0, rfl⟩ := h0
    simp only [Ow, okAtom] at h1
    obtain ⟨rfl, w1, rfl⟩ := h1
    simp only [Ow, okAtom] at h2
    obtain ⟨rfl, w2, rfl⟩ := h2
    obtain ⟨A1, c1, rfl, _⟩ := h3.slice
    obtain ⟨A2, c2, rfl, _⟩ := h4.slice
    exact ⟨A1, c1, A2, c2, g3, g4, rfl, w0, w1, w2, h3, h4, by simp⟩
theorem OwC.mTree {w : World} {x : Tree} {v1 v2 : Value} {f1 f2 : List Nat} (w0 : (Lit.int .i64 x.sort).wf = true) (w1 : (Lit.int .i64 x.num).wf = true) (w2 : x.text.size ≤ maxLen) (h3 : Ow w (.s 1 x.names.length (x.names.flatMap strC)) v1 f1) (h4 : Ow w (.s 5 x.kids.length (x.kids.flatMap Tree.cells)) v2 f2) :
    OwC w x.cells [.int .i64 x.sort, .int .i64 x.num, .string x.text, v1, v2] (f1 ++ (f2)) := by
  have h : OwC w x.cells [.int .i64 x.sort, .int .i64 x.num, .string x.text, v1, v2] ([] ++ ([] ++ ([] ++ (f1 ++ (f2 ++ ([])))))) := by
    rw [Tree.cells_eq]
    exact ⟨_, _, ⟨rfl, w0, rfl⟩, ⟨_, _, ⟨rfl, w1, rfl⟩, ⟨_, _, ⟨rfl, w2, rfl⟩, ⟨_, _, h3, ⟨_, _, h4, rfl, rfl⟩, rfl⟩, rfl⟩, rfl⟩, rfl⟩
  simpa using h
end Go.Proofs.YtnaecdoeldoipaaGreatDoor
set_option linter.unusedVariables false
set_option linter.unusedSimpArgs false
namespace Go.Proofs.YtnaecdoeldoipaaGreatDoor
open Go.ChangeShapes Go.WideShapes Go.ChangeAt Go.RowKit



end Go.Proofs.YtnaecdoeldoipaaGreatDoor
set_option linter.unusedVariables false
set_option linter.unusedSimpArgs false
namespace Go.Proofs.YtnaecdoeldoipaaGreatDoor
open Go.ChangeShapes Go.WideShapes Go.ChangeAt Go.RowKit

inductive Kind where
  | mk (sort : Int) (names : List ByteArray) (kids : List Kind)
def Kind.sort : Kind → Int | .mk x _ _ => x
def Kind.names : Kind → List ByteArray | .mk _ x _ => x
def Kind.kids : Kind → List Kind | .mk _ _ x => x
mutual
def Kind.cells : Kind → List D
  | .mk sort names kids => [.v (.int .i64 sort)] ++ [.s 1 names.length (names.flatMap strC)] ++ [.s 3 kids.length (Kind.cellsS kids)]
def Kind.cellsS : List Kind → List D
  | [] => []
  | x :: r => x.cells ++ Kind.cellsS r
end
mutual
def Kind.bulk : Kind → Nat
  | .mk sort names kids => bulkStrs names + kids.length + Kind.bulkS kids
def Kind.bulkS : List Kind → Nat
  | [] => 0
  | x :: r => x.bulk + Kind.bulkS r
end
theorem Kind.cellsS_flat : ∀ (l : List Kind), Kind.cellsS l = l.flatMap Kind.cells
  | [] => rfl
  | x :: r => by simp [Kind.cellsS, Kind.cellsS_flat r]
theorem Kind.cells_eq (x : Kind) : x.cells = [.v (.int .i64 x.sort), .s 1 x.names.length (x.names.flatMap strC), .s 3 x.kids.length (x.kids.flatMap Kind.cells)] := by
  cases x; simp [Kind.cells, Kind.sort, Kind.names, Kind.kids, Kind.cellsS_flat]
theorem Kind.bulk_eq (x : Kind) : x.bulk = bulkStrs x.names + x.kids.length + Kind.bulkS x.kids := by cases x; rfl
theorem Kind.ind {P : Kind → Prop} (h : ∀ k, (∀ x ∈ k.kids, P x) → P k) : ∀ k, P k
  | .mk sort names kids => h _ fun x hx => Kind.ind h x
termination_by k => SizeOf.sizeOf k
decreasing_by
  simp only [Kind.kids] at hx
  have := List.sizeOf_lt_of_mem hx
  simp only [Kind.mk.sizeOf_spec]
  omega
theorem Kind.cells_len (x : Kind) : x.cells.length = 3 := by rw [Kind.cells_eq]; rfl
def Kind.bulkL (l : List Kind) : Nat := l.length + Kind.bulkS l
theorem Kind.bulkS_append (a b : List Kind) : Kind.bulkS (a ++ b) = Kind.bulkS a + Kind.bulkS b := by
  induction a with
  | nil => simp [Kind.bulkS]
  | cons x a ih => simp [Kind.bulkS, ih]; omega
theorem Kind.bulkS_snoc (l : List Kind) (k : Nat) (h : k < l.length) : Kind.bulkS (l.take (k + 1)) = Kind.bulkS (l.take k) + l[k].bulk := by
  rw [List.take_succ_eq_append_getElem h, Kind.bulkS_append]
  simp [Kind.bulkS]
theorem Kind.bulkS_le (l : List Kind) (k : Nat) : Kind.bulkS (l.take k) ≤ Kind.bulkS l := by
  conv => rhs; rw [← List.take_append_drop k l, Kind.bulkS_append]
  omega
theorem Kind.bulk_at (l : List Kind) (k : Nat) (h : k < l.length) : l[k].bulk ≤ Kind.bulkS l := by
  have h1 := Kind.bulkS_snoc l k h
  have h2 := Kind.bulkS_le l (k + 1)
  omega
theorem OwC.oKind {w : World} {x : Kind} {us : List Value} {fp : List Nat} (h : OwC w x.cells us fp) :
    ∃ A1 c1 A2 c2 f1 f2, us = [.int .i64 x.sort, .slice A1 x.names.length c1, .slice A2 x.kids.length c2] ∧ (Lit.int .i64 x.sort).wf = true ∧ Ow w (.s 1 x.names.length (x.names.flatMap strC)) (.slice A1 x.names.length c1) f1 ∧ Ow w (.s 3 x.kids.length (x.kids.flatMap Kind.cells)) (.slice A2 x.kids.length c2) f2 ∧ fp = f1 ++ (f2) := by
  rw [Kind.cells_eq] at h
  match us, OwC.length _ h with
  | [u0, u1, u2], _ =>
    simp only [OwC] at h
    obtain ⟨g0, _, h0, ⟨g1, _, h1, ⟨g2, _, h2, rfl, rfl⟩, rfl⟩, rfl⟩ := h
    simp only [Ow, okAtom] at h0
    obtain ⟨rfl, w0, rfl⟩ := h0
    obtain ⟨A1, c1, rfl, _⟩ := h1.slice
    obtain ⟨A2, c2, rfl, _⟩ := h2.slice
    exact ⟨A1, c1, A2, c2, g1, g2, rfl, w0, h1, h2, by simp⟩
theorem OwC.mKind {w : World} {x : Kind} {v1 v2 : Value} {f1 f2 : List Nat} (w0 : (Lit.int .i64 x.sort).wf = true) (h1 : Ow w (.s 1 x.names.length (x.names.flatMap strC)) v1 f1) (h2 : Ow w (.s 3 x.kids.length (x.kids.flatMap Kind.cells)) v2 f2) :
    OwC w x.cells [.int .i64 x.sort, v1, v2] (f1 ++ (f2)) := by
  have h : OwC w x.cells [.int .i64 x.sort, v1, v2] ([] ++ (f1 ++ (f2 ++ ([])))) := by
    rw [Kind.cells_eq]
    exact ⟨_, _, ⟨rfl, w0, rfl⟩, ⟨_, _, h1, ⟨_, _, h2, rfl, rfl⟩, rfl⟩, rfl⟩
  simpa using h
end Go.Proofs.YtnaecdoeldoipaaGreatDoor
set_option linter.unusedVariables false
set_option linter.unusedSimpArgs false
namespace Go.Proofs.YtnaecdoeldoipaaGreatDoor
open Go.ChangeShapes Go.WideShapes Go.ChangeAt Go.RowKit




end Go.Proofs.YtnaecdoeldoipaaGreatDoor
set_option linter.unusedVariables false
set_option linter.unusedSimpArgs false
namespace Go.Proofs.YtnaecdoeldoipaaGreatDoor
open Go.ChangeShapes Go.WideShapes Go.ChangeAt Go.RowKit

def Kind.shape (k : Kind) : Prop :=
  ((k.sort = 1 ∨ k.sort = 2 ∨ k.sort = 3) ∧ k.names.length = 0 ∧ k.kids.length = 0) ∨ ((k.sort = 4 ∨ k.sort = 6) ∧ k.names.length = 0 ∧ k.kids.length = 1) ∨
    (k.sort = 5 ∧ NamesOk k.names ∧ k.names.length = k.kids.length)

theorem Kind.shape_iff (k : Kind) : k.shape ↔ ((k.sort = 1 ∨ k.sort = 2 ∨ k.sort = 3) ∧ k.names.length = 0 ∧ k.kids.length = 0) ∨ ((k.sort = 4 ∨ k.sort = 6) ∧ k.names.length = 0 ∧ k.kids.length = 1) ∨
    (k.sort = 5 ∧ NamesOk k.names ∧ k.names.length = k.kids.length) := Iff.rfl

mutual
def Kind.good : Kind → Nat → Prop
  | .mk s ns ks, lv => lv ≤ 6 ∧ (Kind.mk s ns ks).shape ∧ Kind.goodS ks (lv + 1)
def Kind.goodS : List Kind → Nat → Prop
  | [], _ => True
  | k :: r, lv => k.good lv ∧ Kind.goodS r lv
end
mutual
def Kind.parts : Kind → Nat
  | .mk _ _ ks => 1 + Kind.partsS ks
def Kind.partsS : List Kind → Nat
  | [] => 0
  | k :: r => k.parts + Kind.partsS r
end
theorem Kind.good_iff (k : Kind) (lv : Nat) : k.good lv ↔ lv ≤ 6 ∧ k.shape ∧ Kind.goodS k.kids (lv + 1) := by cases k; rfl
theorem Kind.parts_eq (k : Kind) : k.parts = 1 + Kind.partsS k.kids := by cases k; rfl
theorem Kind.goodS_append (a b : List Kind) (lv : Nat) : Kind.goodS (a ++ b) lv ↔ Kind.goodS a lv ∧ Kind.goodS b lv := by
  induction a with
  | nil => simp [Kind.goodS]
  | cons x a ih => simp [Kind.goodS, ih, and_assoc]
theorem Kind.goodS_snoc (l : List Kind) (lv k : Nat) (h : k < l.length) : Kind.goodS (l.take (k + 1)) lv ↔ Kind.goodS (l.take k) lv ∧ l[k].good lv := by
  rw [List.take_succ_eq_append_getElem h, Kind.goodS_append]
  simp [Kind.goodS]
theorem Kind.goodS_at {l : List Kind} {lv k : Nat} (hg : Kind.goodS l lv) (h : k < l.length) : l[k].good lv := by
  rw [← List.take_append_drop (k + 1) l, Kind.goodS_append, Kind.goodS_snoc l lv k h] at hg
  exact hg.1.2
theorem Kind.partsS_append (a b : List Kind) : Kind.partsS (a ++ b) = Kind.partsS a + Kind.partsS b := by
  induction a with
  | nil => simp [Kind.partsS]
  | cons x a ih => simp [Kind.partsS, ih]; omega
theorem Kind.partsS_snoc (l : List Kind) (k : Nat) (h : k < l.length) : Kind.partsS (l.take (k + 1)) = Kind.partsS (l.take k) + l[k].parts := by
  rw [List.take_succ_eq_append_getElem h, Kind.partsS_append]
  simp [Kind.partsS]
theorem Kind.partsS_le (l : List Kind) (k : Nat) : Kind.partsS (l.take k) ≤ Kind.partsS l := by
  conv => rhs; rw [← List.take_append_drop k l, Kind.partsS_append]
  omega

/-- so many parts are left -/
def Kind.fits (k : Kind) (lv : Nat) (p : Int) : Prop := k.good lv ∧ p + k.parts ≤ 40

end Go.Proofs.YtnaecdoeldoipaaGreatDoor
set_option linter.unusedVariables false
set_option linter.unusedSimpArgs false
namespace Go.Proofs.YtnaecdoeldoipaaGreatDoor
open Go.ChangeShapes Go.WideShapes Go.ChangeAt Go.RowKit

noncomputable def Kind.partsR (k : Kind) (lv : Nat) : Int := if tb (k.fits lv 0) = true then k.parts else -1
theorem Kind.partsR_yes {k : Kind} {lv : Nat} (h : k.fits lv 0) : k.partsR lv = k.parts := by unfold Kind.partsR; rw [tb_true h, if_pos rfl]
theorem Kind.partsR_no {k : Kind} {lv : Nat} (h : ¬ k.fits lv 0) : k.partsR lv = -1 := by unfold Kind.partsR; rw [tb_false h]; rfl

def PartsKind (k : Kind) : Prop := ∀ (us : List Value) (fp : List Nat) (lv : Nat) (z : Int) (w : World), z = lv → OwC w k.cells us fp → Lt fp w.heap.size → k.bulk ≤ 1048576 → 1 ≤ lv → lv ≤ 7 →
  Calls Tryz.prog 111 #[.agg us.toArray, .int .i64 z] w fun e w' => e = .returned (.int .i64 (k.partsR lv)) ∧ Below w.heap.size w w'

set_option maxRecDepth 100000 in
set_option maxHeartbeats 400000 in
theorem partsKind_five (k : Kind) (ih : ∀ x ∈ k.kids, PartsKind x) (hs : k.shape) (h5 : k.sort = 5) (hn : NamesOk k.names) (hl : k.names.length = k.kids.length) (fp : List Nat) (lv : Nat) (w : World) (A1 : Option Addr) (c1 : Nat) (A2 : Option Addr) (c2 : Nat) (f1 f2 : List Nat)
    (o1 : Ow w (.s 1 k.names.length (k.names.flatMap strC)) (.slice A1 k.names.length c1) f1) (o2 : Ow w (.s 3 k.kids.length (k.kids.flatMap Kind.cells)) (.slice A2 k.kids.length c2) f2) (hf : Lt (f1 ++ f2) w.heap.size) (hbk : k.bulk ≤ 1048576) (hl0 : 1 ≤ lv) (h6 : lv ≤ 6) :
    Calls Tryz.prog 111 #[.agg #[.int .i64 k.sort, .slice A1 k.names.length c1, .slice A2 k.kids.length c2], .int .i64 lv] w fun e w' => e = .returned (.int .i64 (k.partsR lv)) ∧ Below w.heap.size w w' := by
  have hkb := k.bulk_eq; unfold bulkStrs at hkb
  have hkl : k.kids.length ≤ 1048576 := by omega
  have hnl : k.names.length ≤ 1048576 := by omega
  have HB := hide hkb
  clear hkb
  have hw1 : Below w.heap.size w (w.alloc (.cells #[.int .i64 k.sort, .slice A1 k.names.length c1, .slice A2 k.kids.length c2] 38)) := (Below.refl _ _).alloc (Nat.le_refl _) _
  have ho1 := hide (o1.below hw1 hf.left)
  have HF := hide (fun (h1 : Kind.goodS k.kids (lv + 1)) (h2 : 1 + (Kind.partsS k.kids : Int) ≤ 40) => Kind.partsR_yes (k := k) (lv := lv) ⟨(Kind.good_iff _ _).2 ⟨h6, hs, h1⟩, by have := k.parts_eq; omega⟩)
  have HP := hide k.parts_eq
  have HN := hide (fun (h : ¬ (Kind.goodS k.kids (lv + 1) ∧ 1 + (Kind.partsS k.kids : Int) ≤ 40)) => Kind.partsR_no (k := k) (lv := lv) (fun h' => h ⟨((Kind.good_iff _ _).1 h'.1).2.2, by have := h'.2; have := k.parts_eq; omega⟩))
  have HO2 := hide o2
  have HI := hide ih
  clear o1 o2 ih hs
  generalize k.sort = s at *
  subst h5
  have hq : ((k.names.length : Int) != (k.kids.length : Int)) = false := by rw [bne_eq_false_iff_eq]; omega
  clear hl
  go_enter Tryz.func111, Tryz.ntmps111
  go_wp2_with fail
  refine (l6In_any _ _ _ _).mono ?_
  rintro e w' ⟨rfl, rfl⟩
  rw [tb_true (by omega)]
  go_wp2_with fail
  refine (l1Rise_any _ _ _ _ _ _ ho1.out).mono ?_
  rintro e w' ⟨rfl, q, rfl⟩
  rw [tb_true hn]
  go_wp2
  have hb0 : ((w.alloc (.cells #[.int .i64 5, .slice A1 k.names.length c1, .slice A2 k.kids.length c2] 38)).drewN q).cell? ⟨w.heap.size, 2, none⟩ = some (.slice A2 k.kids.length c2) := by go_simp
  have hw2 : Below w.heap.size w ((w.alloc (.cells #[.int .i64 5, .slice A1 k.names.length c1, .slice A2 k.kids.length c2] 38)).drewN q) := below_drewN hw1 q
  have hsz : w.heap.size < ((w.alloc (.cells #[.int .i64 5, .slice A1 k.names.length c1, .slice A2 k.kids.length c2] 38)).drewN q).heap.size := by simp
  go_loopw [6, 7] (fun a i wr => ∃ j : Nat, j ≤ k.kids.length ∧ i = .int .i64 j ∧ a = .int .i64 (1 + (Kind.partsS (k.kids.take j) : Int)) ∧ Kind.goodS (k.kids.take j) (lv + 1) ∧ 1 + (Kind.partsS (k.kids.take j) : Int) ≤ 40 ∧ wr.cell? ⟨w.heap.size, 2, none⟩ = some (.slice A2 k.kids.length c2) ∧ w.heap.size < wr.heap.size ∧ Below w.heap.size w wr) (fun _ i _ => k.kids.length - (intOf i).toNat)
  case atStart => exact ⟨0, Nat.zero_le _, rfl, by simp [Kind.partsS], by simp [Kind.goodS], by simp [Kind.partsS], hb0, hsz, hw2⟩
  case round =>
    obtain ⟨j, hj, rfl, rfl, hgood, hle, hcj, hszj, hbj⟩ := hrel
    have HG := hide hgood
    have HR := hide hbj
    clear hgood hbj hw2 hb0 hsz
    by_cases hlt : j < k.kids.length
    · obtain ⟨g, off, vs, fi, rfl, hg, hfi, hvl, hcs, hov⟩ := (HO2.out.below HR.out hf.right).elem Kind.cells_len hlt
      have hov' := hov
      obtain ⟨B1, d1, B2, d2, q1, q2, rfl, v0, x1, x2, rfl⟩ := hov.oKind
      have p0 := hcs 0 _ rfl
      have p1 := hcs 1 _ rfl
      have p2 := hcs 2 _ rfl
      simp only [Nat.add_zero] at p0
      have hfq : Lt (q1 ++ q2) wr.heap.size := ((hf.right).up HR.out).sub hfi
      have HC := hide (HI.out _ (List.getElem_mem hlt))
      have hsn := hide (Kind.goodS_snoc k.kids (lv + 1) j hlt)
      have hps := hide (Kind.partsS_snoc k.kids j hlt)
      have hpl' := Kind.partsS_le k.kids (j + 1)
      have hbl : k.kids[j].bulk ≤ 1048576 := by
        have h1 := Kind.bulkS_snoc k.kids j hlt
        have h2 := Kind.bulkS_le k.kids (j + 1)
        have h3 := HB.out
        omega
      have HO := hide hov'
      have hat := hide (fun (h : Kind.goodS k.kids (lv + 1)) => Kind.goodS_at h hlt)
      clear hov hov' x1 x2 hcs
      generalize k.kids[j] = x at *
      generalize Kind.partsS (k.kids.take j) = m at *
      go_wp2_with fail
      refine (HC.out _ _ (lv + 1) _ _ (by omega) HO.out hfq hbl (by omega) (by omega)).mono ?_
      rintro e w2 ⟨rfl, hb2⟩
      have hw3 := HR.out.trans (hb2.mono HR.out.size)
      have hsz3 : w.heap.size < w2.heap.size := Nat.lt_of_lt_of_le hszj hb2.size
      have hcj2 : w2.cell? ⟨w.heap.size, 2, none⟩ = some (.slice (some ⟨g, off, none⟩) k.kids.length c2) := (hb2.cell (p := ⟨w.heap.size, 2, none⟩) hszj).trans hcj
      by_cases hx : x.fits (lv + 1) 0
      · rw [Kind.partsR_yes hx]
        have hx2 : (x.parts : Int) ≤ 40 := by have := hx.2; omega
        have HX := hide hx
        clear hx hcj
        by_cases hsum : 1 + (m : Int) + x.parts ≤ 40
        · go_wp2
          go_roundw
          case rel => exact ⟨j + 1, by omega, by go_num, by rw [hps.out]; go_num, hsn.out.2 ⟨HG.out, HX.out.1⟩, by rw [hps.out]; omega, hcj2, hsz3, hw3⟩
          case measure => simp [intOf]; omega
        · have HT := hide (HN.out (fun h => hsum (by have := h.2; have := hps.out; omega)))
          go_wp2
          go_ret
          exact ⟨ret_int HT.out.symm, hw3⟩
      · rw [Kind.partsR_no hx]
        have HT := hide (HN.out (fun h => hx ⟨hat.out h.1, by have := h.2; have := hps.out; omega⟩))
        clear hx
        go_wp2
        go_ret
        exact ⟨ret_int HT.out.symm, hw3⟩
    · obtain rfl : j = k.kids.length := by omega
      rw [List.take_length] at *
      have HT := hide (HF.out HG.out hle)
      go_wp2
      go_ret
      exact ⟨ret_int (by rw [HT.out, HP.out]; go_num), HR.out⟩

set_option maxRecDepth 100000 in
theorem l2Parts_leaf (s : Int) (lv : Nat) (w : World) (A1 : Option Addr) (c1 : Nat) (A2 : Option Addr) (c2 : Nat) (h1 : 1 ≤ s) (h4 : s < 4) (hl0 : 1 ≤ lv) (h6 : lv ≤ 6) :
    Calls Tryz.prog 111 #[.agg #[.int .i64 s, .slice A1 0 c1, .slice A2 0 c2], .int .i64 lv] w fun e w' => e = .returned (.int .i64 1) ∧ Below w.heap.size w w' := by
  have b4 := bne_f (s := s) (c := 4) (by omega)
  have b5 := bne_f (s := s) (c := 5) (by omega)
  have b6 := bne_f (s := s) (c := 6) (by omega)
  have b5' : (s != 5) = true := by rw [bne_iff_ne]; omega
  go_enter Tryz.func111, Tryz.ntmps111
  go_wp2_with fail
  refine (l6In_any _ _ _ _).mono ?_
  rintro e w' ⟨rfl, rfl⟩
  rw [tb_true (by omega)]
  go_wp2
  go_loop [6, 7] (fun a i => a = .int .i64 1 ∧ i = .int .i64 0) (fun _ _ => 0)
  case atStart => exact ⟨rfl, rfl⟩
  case round =>
    obtain ⟨rfl, rfl⟩ := hrel
    go_wp2
    go_ret
    exact ⟨rfl, (Below.refl _ _).alloc (Nat.le_refl _) _⟩

set_option maxRecDepth 100000 in
set_option maxHeartbeats 400000 in
theorem partsKind_one (k : Kind) (ih : ∀ x ∈ k.kids, PartsKind x) (hs : k.shape) (s : Int) (hss : k.sort = s) (h46 : s = 4 ∨ s = 6) (hl : k.kids.length = 1) (fp : List Nat) (lv : Nat) (w : World) (A1 : Option Addr) (c1 : Nat) (A2 : Option Addr) (c2 : Nat) (f1 f2 : List Nat)
    (o2 : Ow w (.s 3 k.kids.length (k.kids.flatMap Kind.cells)) (.slice A2 k.kids.length c2) f2) (hf : Lt (f1 ++ f2) w.heap.size) (hbk : k.bulk ≤ 1048576) (hl0 : 1 ≤ lv) (h6 : lv ≤ 6) :
    Calls Tryz.prog 111 #[.agg #[.int .i64 s, .slice A1 0 c1, .slice A2 k.kids.length c2], .int .i64 lv] w fun e w' => e = .returned (.int .i64 (k.partsR lv)) ∧ Below w.heap.size w w' := by
  have hkb := k.bulk_eq; unfold bulkStrs at hkb
  have hkl : k.kids.length ≤ 1048576 := by omega
  have hnl : k.names.length ≤ 1048576 := by omega
  have HB := hide hkb
  clear hkb
  have hw1 : Below w.heap.size w (w.alloc (.cells #[.int .i64 s, .slice A1 0 c1, .slice A2 k.kids.length c2] 38)) := (Below.refl _ _).alloc (Nat.le_refl _) _
  have HF := hide (fun (h1 : Kind.goodS k.kids (lv + 1)) (h2 : 1 + (Kind.partsS k.kids : Int) ≤ 40) => Kind.partsR_yes (k := k) (lv := lv) ⟨(Kind.good_iff _ _).2 ⟨h6, hs, h1⟩, by have := k.parts_eq; omega⟩)
  have HP := hide k.parts_eq
  have HN := hide (fun (h : ¬ (Kind.goodS k.kids (lv + 1) ∧ 1 + (Kind.partsS k.kids : Int) ≤ 40)) => Kind.partsR_no (k := k) (lv := lv) (fun h' => h ⟨((Kind.good_iff _ _).1 h'.1).2.2, by have := h'.2; have := k.parts_eq; omega⟩))
  have HO2 := hide o2
  have HI := hide ih
  clear o2 ih hs
  have hq : ((k.kids.length : Int) != 1) = false := by rw [bne_eq_false_iff_eq]; omega
  clear hl hss
  rcases h46 with rfl | rfl
  · go_enter Tryz.func111, Tryz.ntmps111
    go_wp2_with fail
    refine (l6In_any _ _ _ _).mono ?_
    rintro e w' ⟨rfl, rfl⟩
    rw [tb_true (by omega)]
    go_wp2
    have hb0 : (w.alloc (.cells #[.int .i64 4, .slice A1 0 c1, .slice A2 k.kids.length c2] 38)).cell? ⟨w.heap.size, 2, none⟩ = some (.slice A2 k.kids.length c2) := by go_simp
    have hw2 : Below w.heap.size w (w.alloc (.cells #[.int .i64 4, .slice A1 0 c1, .slice A2 k.kids.length c2] 38)) := hw1
    have hsz : w.heap.size < (w.alloc (.cells #[.int .i64 4, .slice A1 0 c1, .slice A2 k.kids.length c2] 38)).heap.size := by simp
    go_loopw [6, 7] (fun a i wr => ∃ j : Nat, j ≤ k.kids.length ∧ i = .int .i64 j ∧ a = .int .i64 (1 + (Kind.partsS (k.kids.take j) : Int)) ∧ Kind.goodS (k.kids.take j) (lv + 1) ∧ 1 + (Kind.partsS (k.kids.take j) : Int) ≤ 40 ∧ wr.cell? ⟨w.heap.size, 2, none⟩ = some (.slice A2 k.kids.length c2) ∧ w.heap.size < wr.heap.size ∧ Below w.heap.size w wr) (fun _ i _ => k.kids.length - (intOf i).toNat)
    case atStart => exact ⟨0, Nat.zero_le _, rfl, by simp [Kind.partsS], by simp [Kind.goodS], by simp [Kind.partsS], hb0, hsz, hw2⟩
    case round =>
      obtain ⟨j, hj, rfl, rfl, hgood, hle, hcj, hszj, hbj⟩ := hrel
      have HG := hide hgood
      have HR := hide hbj
      clear hgood hbj hw2 hb0 hsz
      by_cases hlt : j < k.kids.length
      · obtain ⟨g, off, vs, fi, rfl, hg, hfi, hvl, hcs, hov⟩ := (HO2.out.below HR.out hf.right).elem Kind.cells_len hlt
        have hov' := hov
        obtain ⟨B1, d1, B2, d2, q1, q2, rfl, v0, x1, x2, rfl⟩ := hov.oKind
        have p0 := hcs 0 _ rfl
        have p1 := hcs 1 _ rfl
        have p2 := hcs 2 _ rfl
        simp only [Nat.add_zero] at p0
        have hfq : Lt (q1 ++ q2) wr.heap.size := ((hf.right).up HR.out).sub hfi
        have HC := hide (HI.out _ (List.getElem_mem hlt))
        have hsn := hide (Kind.goodS_snoc k.kids (lv + 1) j hlt)
        have hps := hide (Kind.partsS_snoc k.kids j hlt)
        have hpl' := Kind.partsS_le k.kids (j + 1)
        have hbl : k.kids[j].bulk ≤ 1048576 := by
          have h1 := Kind.bulkS_snoc k.kids j hlt
          have h2 := Kind.bulkS_le k.kids (j + 1)
          have h3 := HB.out
          omega
        have HO := hide hov'
        have hat := hide (fun (h : Kind.goodS k.kids (lv + 1)) => Kind.goodS_at h hlt)
        clear hov hov' x1 x2 hcs
        generalize k.kids[j] = x at *
        generalize Kind.partsS (k.kids.take j) = m at *
        go_wp2_with fail
        refine (HC.out _ _ (lv + 1) _ _ (by omega) HO.out hfq hbl (by omega) (by omega)).mono ?_
        rintro e w2 ⟨rfl, hb2⟩
        have hw3 := HR.out.trans (hb2.mono HR.out.size)
        have hsz3 : w.heap.size < w2.heap.size := Nat.lt_of_lt_of_le hszj hb2.size
        have hcj2 : w2.cell? ⟨w.heap.size, 2, none⟩ = some (.slice (some ⟨g, off, none⟩) k.kids.length c2) := (hb2.cell (p := ⟨w.heap.size, 2, none⟩) hszj).trans hcj
        by_cases hx : x.fits (lv + 1) 0
        · rw [Kind.partsR_yes hx]
          have hx2 : (x.parts : Int) ≤ 40 := by have := hx.2; omega
          have HX := hide hx
          clear hx hcj
          by_cases hsum : 1 + (m : Int) + x.parts ≤ 40
          · go_wp2
            go_roundw
            case rel => exact ⟨j + 1, by omega, by go_num, by rw [hps.out]; go_num, hsn.out.2 ⟨HG.out, HX.out.1⟩, by rw [hps.out]; omega, hcj2, hsz3, hw3⟩
            case measure => simp [intOf]; omega
          · have HT := hide (HN.out (fun h => hsum (by have := h.2; have := hps.out; omega)))
            go_wp2
            go_ret
            exact ⟨ret_int HT.out.symm, hw3⟩
        · rw [Kind.partsR_no hx]
          have HT := hide (HN.out (fun h => hx ⟨hat.out h.1, by have := h.2; have := hps.out; omega⟩))
          clear hx
          go_wp2
          go_ret
          exact ⟨ret_int HT.out.symm, hw3⟩
      · obtain rfl : j = k.kids.length := by omega
        rw [List.take_length] at *
        have HT := hide (HF.out HG.out hle)
        go_wp2
        go_ret
        exact ⟨ret_int (by rw [HT.out, HP.out]; go_num), HR.out⟩
  · go_enter Tryz.func111, Tryz.ntmps111
    go_wp2_with fail
    refine (l6In_any _ _ _ _).mono ?_
    rintro e w' ⟨rfl, rfl⟩
    rw [tb_true (by omega)]
    go_wp2
    have hb0 : (w.alloc (.cells #[.int .i64 6, .slice A1 0 c1, .slice A2 k.kids.length c2] 38)).cell? ⟨w.heap.size, 2, none⟩ = some (.slice A2 k.kids.length c2) := by go_simp
    have hw2 : Below w.heap.size w (w.alloc (.cells #[.int .i64 6, .slice A1 0 c1, .slice A2 k.kids.length c2] 38)) := hw1
    have hsz : w.heap.size < (w.alloc (.cells #[.int .i64 6, .slice A1 0 c1, .slice A2 k.kids.length c2] 38)).heap.size := by simp
    go_loopw [6, 7] (fun a i wr => ∃ j : Nat, j ≤ k.kids.length ∧ i = .int .i64 j ∧ a = .int .i64 (1 + (Kind.partsS (k.kids.take j) : Int)) ∧ Kind.goodS (k.kids.take j) (lv + 1) ∧ 1 + (Kind.partsS (k.kids.take j) : Int) ≤ 40 ∧ wr.cell? ⟨w.heap.size, 2, none⟩ = some (.slice A2 k.kids.length c2) ∧ w.heap.size < wr.heap.size ∧ Below w.heap.size w wr) (fun _ i _ => k.kids.length - (intOf i).toNat)
    case atStart => exact ⟨0, Nat.zero_le _, rfl, by simp [Kind.partsS], by simp [Kind.goodS], by simp [Kind.partsS], hb0, hsz, hw2⟩
    case round =>
      obtain ⟨j, hj, rfl, rfl, hgood, hle, hcj, hszj, hbj⟩ := hrel
      have HG := hide hgood
      have HR := hide hbj
      clear hgood hbj hw2 hb0 hsz
      by_cases hlt : j < k.kids.length
      · obtain ⟨g, off, vs, fi, rfl, hg, hfi, hvl, hcs, hov⟩ := (HO2.out.below HR.out hf.right).elem Kind.cells_len hlt
        have hov' := hov
        obtain ⟨B1, d1, B2, d2, q1, q2, rfl, v0, x1, x2, rfl⟩ := hov.oKind
        have p0 := hcs 0 _ rfl
        have p1 := hcs 1 _ rfl
        have p2 := hcs 2 _ rfl
        simp only [Nat.add_zero] at p0
        have hfq : Lt (q1 ++ q2) wr.heap.size := ((hf.right).up HR.out).sub hfi
        have HC := hide (HI.out _ (List.getElem_mem hlt))
        have hsn := hide (Kind.goodS_snoc k.kids (lv + 1) j hlt)
        have hps := hide (Kind.partsS_snoc k.kids j hlt)
        have hpl' := Kind.partsS_le k.kids (j + 1)
        have hbl : k.kids[j].bulk ≤ 1048576 := by
          have h1 := Kind.bulkS_snoc k.kids j hlt
          have h2 := Kind.bulkS_le k.kids (j + 1)
          have h3 := HB.out
          omega
        have HO := hide hov'
        have hat := hide (fun (h : Kind.goodS k.kids (lv + 1)) => Kind.goodS_at h hlt)
        clear hov hov' x1 x2 hcs
        generalize k.kids[j] = x at *
        generalize Kind.partsS (k.kids.take j) = m at *
        go_wp2_with fail
        refine (HC.out _ _ (lv + 1) _ _ (by omega) HO.out hfq hbl (by omega) (by omega)).mono ?_
        rintro e w2 ⟨rfl, hb2⟩
        have hw3 := HR.out.trans (hb2.mono HR.out.size)
        have hsz3 : w.heap.size < w2.heap.size := Nat.lt_of_lt_of_le hszj hb2.size
        have hcj2 : w2.cell? ⟨w.heap.size, 2, none⟩ = some (.slice (some ⟨g, off, none⟩) k.kids.length c2) := (hb2.cell (p := ⟨w.heap.size, 2, none⟩) hszj).trans hcj
        by_cases hx : x.fits (lv + 1) 0
        · rw [Kind.partsR_yes hx]
          have hx2 : (x.parts : Int) ≤ 40 := by have := hx.2; omega
          have HX := hide hx
          clear hx hcj
          by_cases hsum : 1 + (m : Int) + x.parts ≤ 40
          · go_wp2
            go_roundw
            case rel => exact ⟨j + 1, by omega, by go_num, by rw [hps.out]; go_num, hsn.out.2 ⟨HG.out, HX.out.1⟩, by rw [hps.out]; omega, hcj2, hsz3, hw3⟩
            case measure => simp [intOf]; omega
          · have HT := hide (HN.out (fun h => hsum (by have := h.2; have := hps.out; omega)))
            go_wp2
            go_ret
            exact ⟨ret_int HT.out.symm, hw3⟩
        · rw [Kind.partsR_no hx]
          have HT := hide (HN.out (fun h => hx ⟨hat.out h.1, by have := h.2; have := hps.out; omega⟩))
          clear hx
          go_wp2
          go_ret
          exact ⟨ret_int HT.out.symm, hw3⟩
      · obtain rfl : j = k.kids.length := by omega
        rw [List.take_length] at *
        have HT := hide (HF.out HG.out hle)
        go_wp2
        go_ret
        exact ⟨ret_int (by rw [HT.out, HP.out]; go_num), HR.out⟩

set_option maxRecDepth 100000 in
set_option maxHeartbeats 400000 in
theorem l2Parts_bad (s : Int) (ns : List ByteArray) (kl : Nat) (f1 : List Nat) (lv : Nat) (w : World) (A1 : Option Addr) (c1 : Nat) (A2 : Option Addr) (c2 : Nat) (hl0 : 1 ≤ lv) (h6 : lv ≤ 6) (hns : ns.length ≤ 1048576) (hkl : kl ≤ 1048576)
    (o1 : Ow w (.s 1 ns.length (ns.flatMap strC)) (.slice A1 ns.length c1) f1) (hf : Lt f1 w.heap.size)
    (hs : ¬ (((s = 1 ∨ s = 2 ∨ s = 3) ∧ ns.length = 0 ∧ kl = 0) ∨ ((s = 4 ∨ s = 6) ∧ ns.length = 0 ∧ kl = 1) ∨ (s = 5 ∧ NamesOk ns ∧ ns.length = kl))) :
    Calls Tryz.prog 111 #[.agg #[.int .i64 s, .slice A1 ns.length c1, .slice A2 kl c2], .int .i64 lv] w fun e w' => e = .returned (.int .i64 (-1)) ∧ Below w.heap.size w w' := by
  have hw1 : Below w.heap.size w (w.alloc (.cells #[.int .i64 s, .slice A1 ns.length c1, .slice A2 kl c2] 38)) := (Below.refl _ _).alloc (Nat.le_refl _) _
  have ho1 := hide (o1.below hw1 hf)
  clear o1
  by_cases h16 : 1 ≤ s ∧ s ≤ 6
  · by_cases h5 : s = 5
    · subst h5
      by_cases hl : ns.length = kl
      · have hn : ¬ NamesOk ns := fun h => hs (.inr (.inr ⟨rfl, h, hl⟩))
        have hq : ((ns.length : Int) != (kl : Int)) = false := by rw [bne_eq_false_iff_eq]; omega
        clear hl hs
        go_enter Tryz.func111, Tryz.ntmps111
        go_wp2_with fail
        refine (l6In_any _ _ _ _).mono ?_
        rintro e w' ⟨rfl, rfl⟩
        rw [tb_true (by omega)]
        go_wp2_with fail
        refine (l1Rise_any _ _ _ _ _ _ ho1.out).mono ?_
        rintro e w' ⟨rfl, q, rfl⟩
        rw [tb_false hn]
        go_wp2
        go_ret
        exact ⟨rfl, below_drewN hw1 q⟩
      · have hq : ((ns.length : Int) != (kl : Int)) = true := by rw [bne_iff_ne]; omega
        clear hl hs
        go_enter Tryz.func111, Tryz.ntmps111
        go_wp2_with fail
        refine (l6In_any _ _ _ _).mono ?_
        rintro e w' ⟨rfl, rfl⟩
        rw [tb_true (by omega)]
        go_wp2
        go_ret
        exact ⟨rfl, hw1⟩
    · have b5 := bne_f h5
      have b5' : (s != 5) = true := by rw [bne_iff_ne]; omega
      by_cases hn : ns.length = 0
      · have hk : (s < 4 ∧ kl ≠ 0) ∨ ((s = 4 ∨ s = 6) ∧ kl ≠ 1) := by omega
        rw [hn] at hw1 ⊢
        clear hs ho1 hn
        rcases hk with ⟨h4, hk⟩ | ⟨h46, hk⟩
        · have hk0 : (0 : Int) < (kl : Int) := by omega
          go_enter Tryz.func111, Tryz.ntmps111
          go_wp2_with fail
          refine (l6In_any _ _ _ _).mono ?_
          rintro e w' ⟨rfl, rfl⟩
          rw [tb_true (by omega)]
          go_wp2
          go_ret
          exact ⟨rfl, hw1⟩
        · have hq : ((kl : Int) != 1) = true := by rw [bne_iff_ne]; omega
          rcases h46 with rfl | rfl
          all_goals
            go_enter Tryz.func111, Tryz.ntmps111
            go_wp2_with fail
            refine (l6In_any _ _ _ _).mono ?_
            rintro e w' ⟨rfl, rfl⟩
            rw [tb_true (by omega)]
            go_wp2
            go_ret
            exact ⟨rfl, hw1⟩
      · have hn1 : (0 : Int) < (ns.length : Int) := by omega
        have hn2 : ns ≠ [] := fun h => hn (by rw [h]; rfl)
        clear hs
        go_enter Tryz.func111, Tryz.ntmps111
        go_wp2_with fail
        refine (l6In_any _ _ _ _).mono ?_
        rintro e w' ⟨rfl, rfl⟩
        rw [tb_true (by omega)]
        go_wp2
        go_ret
        exact ⟨rfl, hw1⟩
  · clear hs
    go_enter Tryz.func111, Tryz.ntmps111
    go_wp2_with fail
    refine (l6In_any _ _ _ _).mono ?_
    rintro e w' ⟨rfl, rfl⟩
    rw [tb_false h16]
    go_wp2
    go_ret
    exact ⟨rfl, hw1⟩


set_option maxRecDepth 100000 in
theorem partsKind_of (k : Kind) (ih : ∀ x ∈ k.kids, PartsKind x) : PartsKind k := by
  intro us fp lv z w hz ho hf hbk hl0 hl1
  obtain ⟨A1, c1, A2, c2, f1, f2, rfl, w0, o1, o2, rfl⟩ := ho.oKind
  subst hz
  have hkb := k.bulk_eq; unfold bulkStrs at hkb
  by_cases h6 : lv ≤ 6
  · by_cases hs : k.shape
    · rcases k.shape_iff.1 hs with ⟨h1, h2, h3⟩ | ⟨h1, h2, h3⟩ | ⟨h1, h2, h3⟩
      · have e1 : k.kids = [] := List.eq_nil_of_length_eq_zero h3
        have hp : k.partsR lv = 1 := by
          have hp1 : k.parts = 1 := by rw [Kind.parts_eq, e1]; rfl
          rw [Kind.partsR_yes ⟨(Kind.good_iff _ _).2 ⟨h6, hs, by rw [e1]; trivial⟩, by rw [hp1]; decide⟩, hp1]
          rfl
        rw [hp, h2, h3]
        exact l2Parts_leaf _ _ _ _ _ _ _ (by omega) (by omega) hl0 h6
      · have := partsKind_one k ih hs k.sort rfl h1 h3 [] lv w A1 c1 A2 c2 f1 f2 o2 hf hbk hl0 h6
        rw [h2]
        exact this
      · exact partsKind_five k ih hs h1 h2 h3 [] lv w A1 c1 A2 c2 f1 f2 o1 o2 hf hbk hl0 h6
    · rw [Kind.partsR_no (fun h => hs ((Kind.good_iff _ _).1 h.1).2.1)]
      exact l2Parts_bad k.sort k.names k.kids.length f1 lv w A1 c1 A2 c2 hl0 h6 (by omega) (by omega) o1 hf.left (fun h => hs (k.shape_iff.2 h))
  · rw [Kind.partsR_no (fun h => h6 ((Kind.good_iff _ _).1 h.1).1)]
    clear ih ho
    go_enter Tryz.func111, Tryz.ntmps111
    go_wp2
    go_ret
    exact ⟨rfl, (Below.refl _ _).alloc (Nat.le_refl _) _⟩

theorem partsKind_any (k : Kind) : PartsKind k := Kind.ind partsKind_of k
end Go.Proofs.YtnaecdoeldoipaaGreatDoor
set_option linter.unusedVariables false
set_option linter.unusedSimpArgs false
namespace Go.Proofs.YtnaecdoeldoipaaGreatDoor
open Go.ChangeShapes Go.WideShapes Go.ChangeAt Go.RowKit

def Kind.ok (k : Kind) : Prop := k.fits 1 0

set_option maxRecDepth 100000 in
theorem specKindOk_any (k : Kind) (us : List Value) (fp : List Nat) (w : World) (ho : OwC w k.cells us fp) (hf : Lt fp w.heap.size) (hbk : k.bulk ≤ 1048576) :
    Calls Tryz.prog 58 #[.agg us.toArray] w fun e w' => e = .returned (.bool (tb k.ok)) ∧ Below w.heap.size w w' := by
  have ho' := ho
  obtain ⟨A1, c1, A2, c2, f1, f2, rfl, w0, o1, o2, rfl⟩ := ho.oKind
  have hw1 : Below w.heap.size w (w.alloc (.cells #[.int .i64 k.sort, .slice A1 k.names.length c1, .slice A2 k.kids.length c2] 38)) := (Below.refl _ _).alloc (Nat.le_refl _) _
  have HO := hide (ho'.below hw1 hf)
  have hf2 := (hf.mono hw1.size)
  clear ho ho' o1 o2
  go_enter Tryz.func58, Tryz.ntmps58
  go_wp2_with fail
  refine (partsKind_any k _ _ 1 _ _ (by omega) HO.out hf2 hbk (by omega) (by omega)).mono ?_
  rintro e w2 ⟨rfl, hb⟩
  have hb' := hw1.trans (hb.mono hw1.size)
  by_cases h : k.ok
  · rw [Kind.partsR_yes h]
    have HT := hide (tb_true h)
    have hp := k.parts_eq
    have h1 : (0 : Int) < k.parts := by omega
    have h2 : (k.parts : Int) ≤ 40 := by have := h.2; omega
    clear hp h
    go_wp2
    go_ret
    exact ⟨ret_bool (by rw [HT.out]; simpa using h1), hb'⟩
  · rw [Kind.partsR_no h]
    have HT := hide (tb_false h)
    clear h
    go_wp2
    go_ret
    exact ⟨ret_bool HT.out.symm, hb'⟩

end Go.Proofs.YtnaecdoeldoipaaGreatDoor
set_option linter.unusedVariables false
set_option linter.unusedSimpArgs false
namespace Go.Proofs.YtnaecdoeldoipaaGreatDoor
open Go.ChangeShapes Go.WideShapes Go.ChangeAt Go.RowKit

end Go.Proofs.YtnaecdoeldoipaaGreatDoor
set_option linter.unusedVariables false
set_option linter.unusedSimpArgs false
namespace Go.Proofs.YtnaecdoeldoipaaGreatDoor
open Go.ChangeShapes Go.WideShapes Go.ChangeAt Go.RowKit Go.Deep

section
variable {H : Type} {enc : TypeId × Value → H} {P : Program} {w : World} {base : Nat} {spare : Nat → Bool} {held : Bool}

theorem rows_of {α : Type} (f : α → List D) (k : Nat) (hk : ∀ x, (f x).length = k) (g : Nat) (A : Nat → α) (F : Nat → List Nat) : ∀ (n off : Nat),
    (∀ i, i < n → OwL w (f (A i)) g (off + i * k) (F i)) → OwL w (((List.range n).map A).flatMap f) g off ((List.range n).flatMap F)
  | 0, off, _ => by simp [OwL]
  | n + 1, off, h => by
    rw [List.range_succ, List.map_append, List.flatMap_append, List.flatMap_append]
    refine (OwL.append _ _ _ _ _).2 ⟨_, _, rows_of f k hk g A F n off (fun i hi => h i (by omega)), ?_, rfl⟩
    rw [flat_len f k hk]
    have := h n (by omega)
    simpa using this

theorem Addr.flat {a : Addr} (h : a.spot = none) : a = ⟨a.block, a.off, none⟩ := by
  cases a; simp_all
theorem Addr.add_flat (b o j : Nat) : (⟨b, o, none⟩ : Addr).add j = ⟨b, o + j, none⟩ := by unfold Addr.add; split <;> simp_all

/-- A SLICE THAT CAME IN reads as a list, where its elements do. -/
theorem slice_read {α : Type} [Inhabited α] (f : α → List D) (k : Nat) (hk : ∀ x, (f x).length = k) (hk0 : 0 < k) {t e : TypeId} (ht : P.underlying t = some (.slice e)) (hc : P.cellsOf e = k) {fuel : Nat} {cs : List Value} {x : DataW H × List MemPlace}
    (elem : ∀ n, n < fuel → ∀ cs x, DataW.trod enc P w base spare held n e cs = some x → ∃ a fp, OwC w (f a) cs fp ∧ Lt fp w.heap.size)
    (h : DataW.trod enc P w base spare held fuel t cs = some x) :
    ∃ (l : List α) (v : Value) (fp : List Nat), cs = [v] ∧ Ow w (.s k l.length (l.flatMap f)) v fp ∧ Lt fp w.heap.size := by
  rcases DataW.trod_slice ht h with ⟨rfl, _⟩ | ⟨a, len, cap, elems, rest, n, rfl, rfl, _, hb, hl, hm, hlen, hel, _, _⟩
  · refine ⟨[], _, [], rfl, ?_, Lt.nil _⟩
    unfold Ow
    exact ⟨by simp, _, _, rfl, Nat.le_refl _, by unfold maxLen; omega, .inl ⟨rfl, rfl⟩⟩
  · have key : ∀ i, i < len → ∃ y : α × List Nat, OwL w (f y.1) a.block (a.off + i * k) y.2 ∧ Lt y.2 w.heap.size ∧ a.spot = none ∧ a.block < w.heap.size := by
      intro i hi
      have h1 := hel i hi
      rw [List.getElem?_eq_getElem (by omega), hc] at h1
      obtain ⟨cs', h2, h3⟩ := Option.bind_eq_some_iff.1 h1
      obtain ⟨y, fp, ho, hlt⟩ := elem n (by omega) cs' _ h3
      obtain ⟨_, hcl, hat⟩ := World.cells?_some h2
      have h00 : ∃ u, w.cell? (a.add (i * k)) = some u := by
        have := hat 0 hk0
        rw [List.getElem?_eq_getElem (by omega)] at this
        exact ⟨_, by simpa [Addr.add] using this⟩
      obtain ⟨u, hu⟩ := h00
      have hlt0 := World.block_lt_of_cell? w _ hu
      have hspot : (a.add (i * k)).spot = none := World.cell?_spot hu
      -- the slice's own address
      have hel0 := hel 0 (by omega)
      rw [List.getElem?_eq_getElem (by omega), hc] at hel0
      obtain ⟨cs0, g2, _⟩ := Option.bind_eq_some_iff.1 hel0
      obtain ⟨_, hcl0, hat0⟩ := World.cells?_some g2
      have g3 := hat0 0 hk0
      rw [List.getElem?_eq_getElem (by omega)] at g3
      have g4 : w.cell? a = some (cs0[0]'(by omega)) := by simpa [Addr.add] using g3
      have hsp : a.spot = none := World.cell?_spot g4
      have hlta := World.block_lt_of_cell? w _ g4
      refine ⟨(y, fp), ?_, hlt, hsp, hlta⟩
      refine OwC.row _ ho (fun j v hj => ?_)
      have hj' : j < k := by
        have h5 := OwC.length _ ho
        have h6 : j < cs'.length := by
          rcases Nat.lt_or_ge j cs'.length with h7 | h7
          · exact h7
          · rw [List.getElem?_eq_none h7] at hj; cases hj
        omega
      have h8 := hat j hj'
      rw [hj, Addr.flat hsp, Addr.add_flat, Addr.add_flat] at h8
      exact h8
    obtain ⟨F, hF⟩ := choose_lt (α := α × List Nat) key
    refine ⟨(List.range len).map fun i => (F i).1, _, if len = 0 then [] else a.block :: (List.range len).flatMap fun i => (F i).2, rfl, ?_, ?_⟩
    · unfold Ow
      refine ⟨by rw [flat_len f k hk], some a, cap, by simp, by simpa using hl, hm, ?_⟩
      by_cases h0 : len = 0
      · exact .inl ⟨by simpa using h0, by simp [h0]⟩
      · rw [if_neg h0]
        refine .inr ⟨by simp; omega, a.block, a.off, _, ?_, rows_of f k hk a.block (fun i => (F i).1) (fun i => (F i).2) len a.off (fun i hi => (hF i hi).1), rfl⟩
        rw [← Addr.flat (hF 0 (by omega)).2.2.1]
    · by_cases h0 : len = 0
      · rw [if_pos h0]; exact Lt.nil _
      · rw [if_neg h0]
        intro g hg
        rcases List.mem_cons.1 hg with rfl | hg
        · exact (hF 0 (by omega)).2.2.2
        · obtain ⟨i, hi, hg⟩ := List.mem_flatMap.1 hg
          exact (hF i (by simpa using hi)).2.1 g hg

theorem int_read {k : IntKind} {t : TypeId} (ht : P.underlying t = some (.int k)) {fuel : Nat} {cs : List Value} {x : DataW H × List MemPlace} (h : DataW.trod enc P w base spare held fuel t cs = some x) :
    ∃ n, cs = [.int k n] ∧ Ow w (.v (.int k n)) (.int k n) [] := by
  obtain ⟨n, rfl, _, hw⟩ := DataW.trod_int ht h
  exact ⟨n, rfl, by unfold Ow; exact ⟨rfl, hw, rfl⟩⟩
theorem OwC.one {d : D} {v : Value} {fp : List Nat} (h : Ow w d v fp) : OwC w [d] [v] fp := ⟨fp, [], h, rfl, by simp⟩

end

theorem bytes_read {H : Type} {enc : TypeId × Value → H} {w : World} {base : Nat} {spare : Nat → Bool} {held : Bool} {fuel : Nat} {cs : List Value} {x : DataW H × List MemPlace} (h : DataW.trod enc Tryz.prog w base spare held fuel 22 cs = some x) :
    ∃ (l : List UInt8) (v : Value) (fp : List Nat), cs = [v] ∧ Ow w (.s 1 l.length (l.flatMap byteC)) v fp ∧ Lt fp w.heap.size :=
  slice_read byteC 1 byteC_len (by omega) Tryz.underlying22 (by kernel_rfl) (fun n _ cs x hx => by
    obtain ⟨s, rfl, ho⟩ := int_read Tryz.underlying5 hx
    have hw := ho
    unfold Ow at hw
    have hb : 0 ≤ s ∧ s ≤ 255 := by simpa [okAtom, Lit.wf, IntKind.min, IntKind.max, IntKind.signed, IntKind.bits] using hw.2.1
    refine ⟨UInt8.ofNat s.toNat, [], ?_, Lt.nil _⟩
    have e : ((UInt8.ofNat s.toNat).toNat : Int) = s := by rw [UInt8.toNat_ofNat']; omega
    unfold byteC
    rw [e]
    exact OwC.one ho) h
end Go.Proofs.YtnaecdoeldoipaaGreatDoor
