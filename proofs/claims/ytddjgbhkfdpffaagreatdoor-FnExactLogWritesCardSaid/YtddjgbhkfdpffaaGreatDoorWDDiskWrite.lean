/-
  DiskFile as data: its cells, its size. DiskMove as data: its cells, its size. Names: the program's isName, areNames and the reference's l6NameOk, l1Rise answer alike. LogRecord as data: its cells, its size. LogPart as data: its cells, its size. LogPlan as data: its cells, its size. DiskWrite as data: its cells, its size.
-/
import Derived.Test.YtddjgbhkfdpffaaGreatDoorWStr
set_option linter.unusedVariables false
set_option linter.unusedSimpArgs false
namespace Go.Proofs.YtddjgbhkfdpffaaGreatDoor
open Go.ChangeShapes Go.WideShapes Go.ChangeAt Go.RowKit

structure DiskFile where
  name : ByteArray
  data : ByteArray
  kept : Int
def DiskFile.cells (x : DiskFile) : List D := [.v (.string x.name), .v (.string x.data), .v (.int .i64 x.kept)]
theorem DiskFile.cells_eq (x : DiskFile) : x.cells = [.v (.string x.name), .v (.string x.data), .v (.int .i64 x.kept)] := rfl
def DiskFile.bulk (x : DiskFile) : Nat := x.name.size + x.data.size
theorem DiskFile.bulk_eq (x : DiskFile) : x.bulk = x.name.size + x.data.size := rfl
def DiskFile.bulkS : List DiskFile → Nat
  | [] => 0
  | x :: r => x.bulk + DiskFile.bulkS r
theorem DiskFile.cells_len (x : DiskFile) : x.cells.length = 3 := by rw [DiskFile.cells_eq]; rfl
def DiskFile.bulkL (l : List DiskFile) : Nat := l.length + DiskFile.bulkS l
theorem DiskFile.bulkS_append (a b : List DiskFile) : DiskFile.bulkS (a ++ b) = DiskFile.bulkS a + DiskFile.bulkS b := by
  induction a with
  | nil => simp [DiskFile.bulkS]
  | cons x a ih => simp [DiskFile.bulkS, ih]; omega
theorem DiskFile.bulkS_snoc (l : List DiskFile) (k : Nat) (h : k < l.length) : DiskFile.bulkS (l.take (k + 1)) = DiskFile.bulkS (l.take k) + l[k].bulk := by
  rw [List.take_succ_eq_append_getElem h, DiskFile.bulkS_append]
  simp [DiskFile.bulkS]
theorem DiskFile.bulkS_le (l : List DiskFile) (k : Nat) : DiskFile.bulkS (l.take k) ≤ DiskFile.bulkS l := by
  conv => rhs; rw [← List.take_append_drop k l, DiskFile.bulkS_append]
  omega
theorem DiskFile.bulk_at (l : List DiskFile) (k : Nat) (h : k < l.length) : l[k].bulk ≤ DiskFile.bulkS l := by
  have h1 := DiskFile.bulkS_snoc l k h
  have h2 := DiskFile.bulkS_le l (k + 1)
  omega
theorem DiskFile.cells_snoc (l : List DiskFile) (k : Nat) (h : k < l.length) : (l.take (k + 1)).flatMap DiskFile.cells = (l.take k).flatMap DiskFile.cells ++ l[k].cells := by
  rw [List.take_succ_eq_append_getElem h, List.flatMap_append]
  simp
theorem OwC.oDiskFile {w : World} {x : DiskFile} {us : List Value} {fp : List Nat} (h : OwC w x.cells us fp) :
    us = [.string x.name, .string x.data, .int .i64 x.kept] ∧ x.name.size ≤ maxLen ∧ x.data.size ≤ maxLen ∧ (Lit.int .i64 x.kept).wf = true ∧ fp = [] := by
  rw [DiskFile.cells_eq] at h
  match us, OwC.length _ h with
  | [u0, u1, u2], _ =>
    simp only [OwC] at h
    obtain ⟨g0, _, h0, ⟨g1, _, h1, ⟨g2, _, h2, rfl, rfl⟩, rfl⟩, rfl⟩ := h
    simp only [Ow, okAtom] at h0
    obtain ⟨rfl, w0, rfl⟩ := h0
    simp only [Ow, okAtom] at h1
    obtain ⟨rfl, w1, rfl⟩ := h1
    simp only [Ow, okAtom] at h2
    obtain ⟨rfl, w2, rfl⟩ := h2
    exact ⟨rfl, w0, w1, w2, by simp⟩
theorem OwC.mDiskFile {w : World} {x : DiskFile} (w0 : x.name.size ≤ maxLen) (w1 : x.data.size ≤ maxLen) (w2 : (Lit.int .i64 x.kept).wf = true) :
    OwC w x.cells [.string x.name, .string x.data, .int .i64 x.kept] ([]) := by
  have h : OwC w x.cells [.string x.name, .string x.data, .int .i64 x.kept] ([] ++ ([] ++ ([] ++ ([])))) := by
    rw [DiskFile.cells_eq]
    exact ⟨_, _, ⟨rfl, w0, rfl⟩, ⟨_, _, ⟨rfl, w1, rfl⟩, ⟨_, _, ⟨rfl, w2, rfl⟩, rfl, rfl⟩, rfl⟩, rfl⟩
  simpa using h
end Go.Proofs.YtddjgbhkfdpffaaGreatDoor
set_option linter.unusedVariables false
set_option linter.unusedSimpArgs false
namespace Go.Proofs.YtddjgbhkfdpffaaGreatDoor
open Go.ChangeShapes Go.WideShapes Go.ChangeAt Go.RowKit

structure DiskMove where
  gone : Bool
  name : ByteArray
def DiskMove.cells (x : DiskMove) : List D := [.v (.bool x.gone), .v (.string x.name)]
theorem DiskMove.cells_eq (x : DiskMove) : x.cells = [.v (.bool x.gone), .v (.string x.name)] := rfl
def DiskMove.bulk (x : DiskMove) : Nat := x.name.size
theorem DiskMove.bulk_eq (x : DiskMove) : x.bulk = x.name.size := rfl
def DiskMove.bulkS : List DiskMove → Nat
  | [] => 0
  | x :: r => x.bulk + DiskMove.bulkS r
theorem DiskMove.cells_len (x : DiskMove) : x.cells.length = 2 := by rw [DiskMove.cells_eq]; rfl
def DiskMove.bulkL (l : List DiskMove) : Nat := l.length + DiskMove.bulkS l
theorem DiskMove.bulkS_append (a b : List DiskMove) : DiskMove.bulkS (a ++ b) = DiskMove.bulkS a + DiskMove.bulkS b := by
  induction a with
  | nil => simp [DiskMove.bulkS]
  | cons x a ih => simp [DiskMove.bulkS, ih]; omega
theorem DiskMove.bulkS_snoc (l : List DiskMove) (k : Nat) (h : k < l.length) : DiskMove.bulkS (l.take (k + 1)) = DiskMove.bulkS (l.take k) + l[k].bulk := by
  rw [List.take_succ_eq_append_getElem h, DiskMove.bulkS_append]
  simp [DiskMove.bulkS]
theorem DiskMove.bulkS_le (l : List DiskMove) (k : Nat) : DiskMove.bulkS (l.take k) ≤ DiskMove.bulkS l := by
  conv => rhs; rw [← List.take_append_drop k l, DiskMove.bulkS_append]
  omega
theorem DiskMove.bulk_at (l : List DiskMove) (k : Nat) (h : k < l.length) : l[k].bulk ≤ DiskMove.bulkS l := by
  have h1 := DiskMove.bulkS_snoc l k h
  have h2 := DiskMove.bulkS_le l (k + 1)
  omega
theorem DiskMove.cells_snoc (l : List DiskMove) (k : Nat) (h : k < l.length) : (l.take (k + 1)).flatMap DiskMove.cells = (l.take k).flatMap DiskMove.cells ++ l[k].cells := by
  rw [List.take_succ_eq_append_getElem h, List.flatMap_append]
  simp
theorem OwC.oDiskMove {w : World} {x : DiskMove} {us : List Value} {fp : List Nat} (h : OwC w x.cells us fp) :
    us = [.bool x.gone, .string x.name] ∧ x.name.size ≤ maxLen ∧ fp = [] := by
  rw [DiskMove.cells_eq] at h
  match us, OwC.length _ h with
  | [u0, u1], _ =>
    simp only [OwC] at h
    obtain ⟨g0, _, h0, ⟨g1, _, h1, rfl, rfl⟩, rfl⟩ := h
    simp only [Ow, okAtom] at h0
    obtain ⟨rfl, _, rfl⟩ := h0
    simp only [Ow, okAtom] at h1
    obtain ⟨rfl, w1, rfl⟩ := h1
    exact ⟨rfl, w1, by simp⟩
theorem OwC.mDiskMove {w : World} {x : DiskMove} (w1 : x.name.size ≤ maxLen) :
    OwC w x.cells [.bool x.gone, .string x.name] ([]) := by
  have h : OwC w x.cells [.bool x.gone, .string x.name] ([] ++ ([] ++ ([]))) := by
    rw [DiskMove.cells_eq]
    exact ⟨_, _, ⟨rfl, trivial, rfl⟩, ⟨_, _, ⟨rfl, w1, rfl⟩, rfl, rfl⟩, rfl⟩
  simpa using h
end Go.Proofs.YtddjgbhkfdpffaaGreatDoor
set_option linter.unusedVariables false
set_option linter.unusedSimpArgs false
namespace Go.Proofs.YtddjgbhkfdpffaaGreatDoor
open Go.ChangeShapes Go.WideShapes Go.ChangeAt Go.RowKit

/-- A proposition as a Bool. -/
noncomputable def tb (p : Prop) : Bool := @decide p (Classical.propDecidable p)
theorem tb_true {p : Prop} (h : p) : tb p = true := by simp [tb, h]
theorem tb_false {p : Prop} (h : ¬ p) : tb p = false := by simp [tb, h]

def NameAt (s : ByteArray) (k : Nat) (h : k < s.size) : Prop := (97 ≤ (s[k].toNat : Int) ∧ (s[k].toNat : Int) ≤ 122) ∨ (48 ≤ (s[k].toNat : Int) ∧ (s[k].toNat : Int) ≤ 57 ∧ k ≠ 0)
def NameOk (s : ByteArray) : Prop := 1 ≤ s.size ∧ s.size ≤ 8 ∧ ∀ k (h : k < s.size), NameAt s k h

theorem inRange_any (n lo hi : Int) (w : World) :
    Calls Tryz.prog 70 #[.int .i64 n, .int .i64 lo, .int .i64 hi] w fun e w' => e = .returned (.bool (tb (lo ≤ n ∧ n ≤ hi))) ∧ w = w' := by
  by_cases h1 : lo ≤ n
  · by_cases h2 : n ≤ hi
    · go_enter Tryz.func70, Tryz.ntmps70
      go_wp2
      go_ret
      exact ⟨ret_bool (by rw [tb_true ⟨h1, h2⟩]), rfl⟩
    · go_enter Tryz.func70, Tryz.ntmps70
      go_wp2
      go_ret
      exact ⟨ret_bool (by rw [tb_false (by omega)]), rfl⟩
  · go_enter Tryz.func70, Tryz.ntmps70
    go_wp2
    go_ret
    exact ⟨ret_bool (by rw [tb_false (by omega)]), rfl⟩

set_option maxRecDepth 100000 in
theorem isName_any (s : ByteArray) (w : World) (hs : s.size ≤ maxLen) :
    Calls Tryz.prog 86 #[.string s] w fun e w' => e = .returned (.bool (tb (NameOk s))) ∧ w = w' := by
  unfold maxLen at hs
  go_enter Tryz.func86, Tryz.ntmps86
  go_wp2
  go_loop [7] (fun i => ∃ k : Nat, k ≤ s.size ∧ i = .int .i64 k ∧ ∀ j (h : j < s.size), j < k → NameAt s j h) (fun i => s.size - (intOf i).toNat)
  case atStart => exact ⟨0, Nat.zero_le _, rfl, fun j h hj => by omega⟩
  case round =>
    obtain ⟨k, hk, rfl, ha⟩ := hrel
    have HA := hide ha
    clear ha
    by_cases hlt : k < s.size
    · go_wp2
      all_goals first
        | (go_ret; exact ⟨ret_bool (by rw [tb_false (fun h => by have := h.2.2 k hlt; unfold NameAt at this; (try simp only [beq_iff_eq, beq_eq_false_iff_ne, Bool.not_eq_true', Bool.not_eq_false', decide_eq_true_eq, decide_eq_false_iff_not] at *); omega)]), rfl⟩)
        | (go_round
           case rel => exact ⟨k + 1, by omega, by go_num, fun j h hj => by
             by_cases e : j < k
             · exact HA.out j h e
             · obtain rfl : j = k := by omega
               unfold NameAt
               (try simp only [beq_iff_eq, beq_eq_false_iff_ne, Bool.not_eq_true', Bool.not_eq_false', decide_eq_true_eq, decide_eq_false_iff_not] at *); omega⟩
           case measure => simp [intOf]; omega)
    · obtain rfl : k = s.size := by omega
      go_wp2_with fail
      refine (inRange_any _ _ _ _).mono ?_
      rintro e w' ⟨rfl, rfl⟩
      go_wp2
      go_ret
      refine ⟨ret_bool ?_, rfl⟩
      congr 1
      apply propext
      unfold NameOk
      constructor
      · intro h; exact ⟨by omega, by omega, fun k h => HA.out k h h⟩
      · intro h; omega

theorem l6In_any (n lo hi : Int) (w : World) :
    Calls Tryz.prog 56 #[.int .i64 n, .int .i64 lo, .int .i64 hi] w fun e w' => e = .returned (.bool (tb (lo ≤ n ∧ n ≤ hi))) ∧ w = w' := by
  by_cases h1 : lo ≤ n
  · by_cases h2 : n ≤ hi
    · go_enter Tryz.func56, Tryz.ntmps56
      go_wp2
      go_ret
      exact ⟨ret_bool (by rw [tb_true ⟨h1, h2⟩]), rfl⟩
    · go_enter Tryz.func56, Tryz.ntmps56
      go_wp2
      go_ret
      exact ⟨ret_bool (by rw [tb_false (by omega)]), rfl⟩
  · go_enter Tryz.func56, Tryz.ntmps56
    go_wp2
    go_ret
    exact ⟨ret_bool (by rw [tb_false (by omega)]), rfl⟩

theorem nameOk_first {s : ByteArray} (h : NameOk s) : ∃ h0 : 0 < s.size, 97 ≤ (s[0].toNat : Int) ∧ (s[0].toNat : Int) ≤ 122 := by
  have h0 : 0 < s.size := by have := h.1; omega
  have := h.2.2 0 h0
  unfold NameAt at this
  exact ⟨h0, by omega⟩

set_option maxRecDepth 100000 in
theorem l6NameOk_any (s : ByteArray) (w : World) (hs : s.size ≤ maxLen) :
    Calls Tryz.prog 74 #[.string s] w fun e w' => e = .returned (.bool (tb (NameOk s))) ∧ w = w' := by
  unfold maxLen at hs
  go_enter Tryz.func74, Tryz.ntmps74
  go_wp2_with fail
  refine (l6In_any _ _ _ _).mono ?_
  rintro e w' ⟨rfl, rfl⟩
  by_cases hz : (1 : Int) ≤ s.size ∧ (s.size : Int) ≤ 8
  · rw [tb_true hz]
    have h0 : 0 < s.size := by omega
    by_cases hl : 97 ≤ (s[0].toNat : Int)
    · by_cases hu : (s[0].toNat : Int) ≤ 122
      · go_wp2
        go_loop [3] (fun i => ∃ k : Nat, k ≤ s.size ∧ i = .int .i64 k ∧ ∀ j (h : j < s.size), j < k → NameAt s j h) (fun i => s.size - (intOf i).toNat)
        case atStart => exact ⟨0, Nat.zero_le _, rfl, fun j h hj => by omega⟩
        case round =>
          obtain ⟨k, hk, rfl, ha⟩ := hrel
          have HA := hide ha
          have HL := hide hl
          have HU := hide hu
          clear ha hl hu
          by_cases hlt : k < s.size
          · go_wp2
            all_goals first
              | (go_ret; exact ⟨ret_bool (by rw [tb_false (fun h => by have := h.2.2 k hlt; unfold NameAt at this; (try simp only [beq_iff_eq, beq_eq_false_iff_ne, Bool.not_eq_true', Bool.not_eq_false', decide_eq_true_eq, decide_eq_false_iff_not] at *); omega)]), rfl⟩)
              | (go_round
                 case rel => exact ⟨k + 1, by omega, by go_num, fun j h hj => by
                   by_cases e : j < k
                   · exact HA.out j h e
                   · obtain rfl : j = k := by omega
                     unfold NameAt
                     by_cases e0 : j = 0
                     · subst e0
                       exact .inl ⟨HL.out, HU.out⟩
                     · (try simp only [beq_iff_eq, beq_eq_false_iff_ne, Bool.not_eq_true', Bool.not_eq_false', decide_eq_true_eq, decide_eq_false_iff_not] at *); omega⟩
                 case measure => simp [intOf]; omega)
          · obtain rfl : k = s.size := by omega
            go_wp2
            go_ret
            exact ⟨ret_bool (by rw [tb_true ⟨by omega, by omega, fun k h => HA.out k h h⟩]), rfl⟩
      · go_wp2
        go_ret
        exact ⟨ret_bool (by rw [tb_false (fun h => by obtain ⟨_, _⟩ := nameOk_first h; omega)]), rfl⟩
    · go_wp2
      go_ret
      exact ⟨ret_bool (by rw [tb_false (fun h => by obtain ⟨_, _⟩ := nameOk_first h; omega)]), rfl⟩
  · rw [tb_false hz]
    go_wp2
    go_ret
    exact ⟨ret_bool (by rw [tb_false (fun h => by have := h.1; have := h.2.1; omega)]), rfl⟩

theorem l6NameOk_yes (s : ByteArray) (w : World) (hs : s.size ≤ maxLen) (h : NameOk s) :
    Calls Tryz.prog 74 #[.string s] w fun e w' => e = .returned (.bool true) ∧ w' = w :=
  (l6NameOk_any s w hs).mono fun e w' ⟨he, hw⟩ => ⟨by rw [he, tb_true h], hw.symm⟩
theorem l6NameOk_no (s : ByteArray) (w : World) (hs : s.size ≤ maxLen) (h : ¬ NameOk s) :
    Calls Tryz.prog 74 #[.string s] w fun e w' => e = .returned (.bool false) ∧ w' = w :=
  (l6NameOk_any s w hs).mono fun e w' ⟨he, hw⟩ => ⟨by rw [he, tb_false h], hw.symm⟩

end Go.Proofs.YtddjgbhkfdpffaaGreatDoor
set_option linter.unusedVariables false
set_option linter.unusedSimpArgs false
namespace Go.Proofs.YtddjgbhkfdpffaaGreatDoor
open Go.ChangeShapes Go.WideShapes Go.ChangeAt Go.RowKit

structure LogRecord where
  pos : Int
  data : ByteArray
def LogRecord.cells (x : LogRecord) : List D := [.v (.int .i64 x.pos), .v (.string x.data)]
theorem LogRecord.cells_eq (x : LogRecord) : x.cells = [.v (.int .i64 x.pos), .v (.string x.data)] := rfl
def LogRecord.bulk (x : LogRecord) : Nat := x.data.size
theorem LogRecord.bulk_eq (x : LogRecord) : x.bulk = x.data.size := rfl
def LogRecord.bulkS : List LogRecord → Nat
  | [] => 0
  | x :: r => x.bulk + LogRecord.bulkS r
theorem LogRecord.cells_len (x : LogRecord) : x.cells.length = 2 := by rw [LogRecord.cells_eq]; rfl
def LogRecord.bulkL (l : List LogRecord) : Nat := l.length + LogRecord.bulkS l
theorem LogRecord.bulkS_append (a b : List LogRecord) : LogRecord.bulkS (a ++ b) = LogRecord.bulkS a + LogRecord.bulkS b := by
  induction a with
  | nil => simp [LogRecord.bulkS]
  | cons x a ih => simp [LogRecord.bulkS, ih]; omega
theorem LogRecord.bulkS_snoc (l : List LogRecord) (k : Nat) (h : k < l.length) : LogRecord.bulkS (l.take (k + 1)) = LogRecord.bulkS (l.take k) + l[k].bulk := by
  rw [List.take_succ_eq_append_getElem h, LogRecord.bulkS_append]
  simp [LogRecord.bulkS]
theorem LogRecord.bulkS_le (l : List LogRecord) (k : Nat) : LogRecord.bulkS (l.take k) ≤ LogRecord.bulkS l := by
  conv => rhs; rw [← List.take_append_drop k l, LogRecord.bulkS_append]
  omega
theorem LogRecord.bulk_at (l : List LogRecord) (k : Nat) (h : k < l.length) : l[k].bulk ≤ LogRecord.bulkS l := by
  have h1 := LogRecord.bulkS_snoc l k h
  have h2 := LogRecord.bulkS_le l (k + 1)
  omega
theorem LogRecord.cells_snoc (l : List LogRecord) (k : Nat) (h : k < l.length) : (l.take (k + 1)).flatMap LogRecord.cells = (l.take k).flatMap LogRecord.cells ++ l[k].cells := by
  rw [List.take_succ_eq_append_getElem h, List.flatMap_append]
  simp
theorem OwC.oLogRecord {w : World} {x : LogRecord} {us : List Value} {fp : List Nat} (h : OwC w x.cells us fp) :
    us = [.int .i64 x.pos, .string x.data] ∧ (Lit.int .i64 x.pos).wf = true ∧ x.data.size ≤ maxLen ∧ fp = [] := by
  rw [LogRecord.cells_eq] at h
  match us, OwC.length _ h with
  | [u0, u1], _ =>
    simp only [OwC] at h
    obtain ⟨g0, _, h0, ⟨g1, _, h1, rfl, rfl⟩, rfl⟩ := h
    simp only [Ow, okAtom] at h0
    obtain ⟨rfl, w0, rfl⟩ := h0
    simp only [Ow, okAtom] at h1
    obtain ⟨rfl, w1, rfl⟩ := h1
    exact ⟨rfl, w0, w1, by simp⟩
theorem OwC.mLogRecord {w : World} {x : LogRecord} (w0 : (Lit.int .i64 x.pos).wf = true) (w1 : x.data.size ≤ maxLen) :
    OwC w x.cells [.int .i64 x.pos, .string x.data] ([]) := by
  have h : OwC w x.cells [.int .i64 x.pos, .string x.data] ([] ++ ([] ++ ([]))) := by
    rw [LogRecord.cells_eq]
    exact ⟨_, _, ⟨rfl, w0, rfl⟩, ⟨_, _, ⟨rfl, w1, rfl⟩, rfl, rfl⟩, rfl⟩
  simpa using h
end Go.Proofs.YtddjgbhkfdpffaaGreatDoor
set_option linter.unusedVariables false
set_option linter.unusedSimpArgs false
namespace Go.Proofs.YtddjgbhkfdpffaaGreatDoor
open Go.ChangeShapes Go.WideShapes Go.ChangeAt Go.RowKit

structure LogPart where
  num : Int
  first : Int
  next : Int
  size : Int
def LogPart.cells (x : LogPart) : List D := [.v (.int .i64 x.num), .v (.int .i64 x.first), .v (.int .i64 x.next), .v (.int .i64 x.size)]
theorem LogPart.cells_eq (x : LogPart) : x.cells = [.v (.int .i64 x.num), .v (.int .i64 x.first), .v (.int .i64 x.next), .v (.int .i64 x.size)] := rfl
theorem LogPart.cells_len (x : LogPart) : x.cells.length = 4 := by rw [LogPart.cells_eq]; rfl
def LogPart.bulkL (l : List LogPart) : Nat := l.length
theorem LogPart.cells_snoc (l : List LogPart) (k : Nat) (h : k < l.length) : (l.take (k + 1)).flatMap LogPart.cells = (l.take k).flatMap LogPart.cells ++ l[k].cells := by
  rw [List.take_succ_eq_append_getElem h, List.flatMap_append]
  simp
theorem OwC.oLogPart {w : World} {x : LogPart} {us : List Value} {fp : List Nat} (h : OwC w x.cells us fp) :
    us = [.int .i64 x.num, .int .i64 x.first, .int .i64 x.next, .int .i64 x.size] ∧ (Lit.int .i64 x.num).wf = true ∧ (Lit.int .i64 x.first).wf = true ∧ (Lit.int .i64 x.next).wf = true ∧ (Lit.int .i64 x.size).wf = true ∧ fp = [] := by
  rw [LogPart.cells_eq] at h
  match us, OwC.length _ h with
  | [u0, u1, u2, u3], _ =>
    simp only [OwC] at h
    obtain ⟨g0, _, h0, ⟨g1, _, h1, ⟨g2, _, h2, ⟨g3, _, h3, rfl, rfl⟩, rfl⟩, rfl⟩, rfl⟩ := h
    simp only [Ow, okAtom] at h0
    obtain ⟨rfl, w0, rfl⟩ := h0
    simp only [Ow, okAtom] at h1
    obtain ⟨rfl, w1, rfl⟩ := h1
    simp only [Ow, okAtom] at h2
    obtain ⟨rfl, w2, rfl⟩ := h2
    simp only [Ow, okAtom] at h3
    obtain ⟨rfl, w3, rfl⟩ := h3
    exact ⟨rfl, w0, w1, w2, w3, by simp⟩
theorem OwC.mLogPart {w : World} {x : LogPart} (w0 : (Lit.int .i64 x.num).wf = true) (w1 : (Lit.int .i64 x.first).wf = true) (w2 : (Lit.int .i64 x.next).wf = true) (w3 : (Lit.int .i64 x.size).wf = true) :
    OwC w x.cells [.int .i64 x.num, .int .i64 x.first, .int .i64 x.next, .int .i64 x.size] ([]) := by
  have h : OwC w x.cells [.int .i64 x.num, .int .i64 x.first, .int .i64 x.next, .int .i64 x.size] ([] ++ ([] ++ ([] ++ ([] ++ ([]))))) := by
    rw [LogPart.cells_eq]
    exact ⟨_, _, ⟨rfl, w0, rfl⟩, ⟨_, _, ⟨rfl, w1, rfl⟩, ⟨_, _, ⟨rfl, w2, rfl⟩, ⟨_, _, ⟨rfl, w3, rfl⟩, rfl, rfl⟩, rfl⟩, rfl⟩, rfl⟩
  simpa using h
end Go.Proofs.YtddjgbhkfdpffaaGreatDoor
set_option linter.unusedVariables false
set_option linter.unusedSimpArgs false
namespace Go.Proofs.YtddjgbhkfdpffaaGreatDoor
open Go.ChangeShapes Go.WideShapes Go.ChangeAt Go.RowKit

structure LogPlan where
  parts : List LogPart
  open_ : Int
  first : Int
def LogPlan.cells (x : LogPlan) : List D := [.s 4 x.parts.length (x.parts.flatMap LogPart.cells), .v (.int .i64 x.open_), .v (.int .i64 x.first)]
theorem LogPlan.cells_eq (x : LogPlan) : x.cells = [.s 4 x.parts.length (x.parts.flatMap LogPart.cells), .v (.int .i64 x.open_), .v (.int .i64 x.first)] := rfl
def LogPlan.bulk (x : LogPlan) : Nat := LogPart.bulkL x.parts
theorem LogPlan.bulk_eq (x : LogPlan) : x.bulk = LogPart.bulkL x.parts := rfl
def LogPlan.bulkS : List LogPlan → Nat
  | [] => 0
  | x :: r => x.bulk + LogPlan.bulkS r
theorem LogPlan.cells_len (x : LogPlan) : x.cells.length = 3 := by rw [LogPlan.cells_eq]; rfl
def LogPlan.bulkL (l : List LogPlan) : Nat := l.length + LogPlan.bulkS l
theorem LogPlan.bulkS_append (a b : List LogPlan) : LogPlan.bulkS (a ++ b) = LogPlan.bulkS a + LogPlan.bulkS b := by
  induction a with
  | nil => simp [LogPlan.bulkS]
  | cons x a ih => simp [LogPlan.bulkS, ih]; omega
theorem LogPlan.bulkS_snoc (l : List LogPlan) (k : Nat) (h : k < l.length) : LogPlan.bulkS (l.take (k + 1)) = LogPlan.bulkS (l.take k) + l[k].bulk := by
  rw [List.take_succ_eq_append_getElem h, LogPlan.bulkS_append]
  simp [LogPlan.bulkS]
theorem LogPlan.bulkS_le (l : List LogPlan) (k : Nat) : LogPlan.bulkS (l.take k) ≤ LogPlan.bulkS l := by
  conv => rhs; rw [← List.take_append_drop k l, LogPlan.bulkS_append]
  omega
theorem LogPlan.bulk_at (l : List LogPlan) (k : Nat) (h : k < l.length) : l[k].bulk ≤ LogPlan.bulkS l := by
  have h1 := LogPlan.bulkS_snoc l k h
  have h2 := LogPlan.bulkS_le l (k + 1)
  omega
theorem LogPlan.cells_snoc (l : List LogPlan) (k : Nat) (h : k < l.length) : (l.take (k + 1)).flatMap LogPlan.cells = (l.take k).flatMap LogPlan.cells ++ l[k].cells := by
  rw [List.take_succ_eq_append_getElem h, List.flatMap_append]
  simp
theorem OwC.oLogPlan {w : World} {x : LogPlan} {us : List Value} {fp : List Nat} (h : OwC w x.cells us fp) :
    ∃ A1 c1 f1, us = [.slice A1 x.parts.length c1, .int .i64 x.open_, .int .i64 x.first] ∧ Ow w (.s 4 x.parts.length (x.parts.flatMap LogPart.cells)) (.slice A1 x.parts.length c1) f1 ∧ (Lit.int .i64 x.open_).wf = true ∧ (Lit.int .i64 x.first).wf = true ∧ fp = f1 := by
  rw [LogPlan.cells_eq] at h
  match us, OwC.length _ h with
  | [u0, u1, u2], _ =>
    simp only [OwC] at h
    obtain ⟨g0, _, h0, ⟨g1, _, h1, ⟨g2, _, h2, rfl, rfl⟩, rfl⟩, rfl⟩ := h
    obtain ⟨A1, c1, rfl, _⟩ := h0.slice
    simp only [Ow, okAtom] at h1
    obtain ⟨rfl, w1, rfl⟩ := h1
    simp only [Ow, okAtom] at h2
    obtain ⟨rfl, w2, rfl⟩ := h2
    exact ⟨A1, c1, g0, rfl, h0, w1, w2, by simp⟩
theorem OwC.mLogPlan {w : World} {x : LogPlan} {v1 : Value} {f1 : List Nat} (h0 : Ow w (.s 4 x.parts.length (x.parts.flatMap LogPart.cells)) v1 f1) (w1 : (Lit.int .i64 x.open_).wf = true) (w2 : (Lit.int .i64 x.first).wf = true) :
    OwC w x.cells [v1, .int .i64 x.open_, .int .i64 x.first] (f1) := by
  have h : OwC w x.cells [v1, .int .i64 x.open_, .int .i64 x.first] (f1 ++ ([] ++ ([] ++ ([])))) := by
    rw [LogPlan.cells_eq]
    exact ⟨_, _, h0, ⟨_, _, ⟨rfl, w1, rfl⟩, ⟨_, _, ⟨rfl, w2, rfl⟩, rfl, rfl⟩, rfl⟩, rfl⟩
  simpa using h
end Go.Proofs.YtddjgbhkfdpffaaGreatDoor
set_option linter.unusedVariables false
set_option linter.unusedSimpArgs false
namespace Go.Proofs.YtddjgbhkfdpffaaGreatDoor
open Go.ChangeShapes Go.WideShapes Go.ChangeAt Go.RowKit

structure DiskWrite where
  kind : Int
  name : ByteArray
  data : ByteArray
def DiskWrite.cells (x : DiskWrite) : List D := [.v (.int .i64 x.kind), .v (.string x.name), .v (.string x.data)]
theorem DiskWrite.cells_eq (x : DiskWrite) : x.cells = [.v (.int .i64 x.kind), .v (.string x.name), .v (.string x.data)] := rfl
def DiskWrite.bulk (x : DiskWrite) : Nat := x.name.size + x.data.size
theorem DiskWrite.bulk_eq (x : DiskWrite) : x.bulk = x.name.size + x.data.size := rfl
def DiskWrite.bulkS : List DiskWrite → Nat
  | [] => 0
  | x :: r => x.bulk + DiskWrite.bulkS r
theorem DiskWrite.cells_len (x : DiskWrite) : x.cells.length = 3 := by rw [DiskWrite.cells_eq]; rfl
def DiskWrite.bulkL (l : List DiskWrite) : Nat := l.length + DiskWrite.bulkS l
theorem DiskWrite.bulkS_append (a b : List DiskWrite) : DiskWrite.bulkS (a ++ b) = DiskWrite.bulkS a + DiskWrite.bulkS b := by
  induction a with
  | nil => simp [DiskWrite.bulkS]
  | cons x a ih => simp [DiskWrite.bulkS, ih]; omega
theorem DiskWrite.bulkS_snoc (l : List DiskWrite) (k : Nat) (h : k < l.length) : DiskWrite.bulkS (l.take (k + 1)) = DiskWrite.bulkS (l.take k) + l[k].bulk := by
  rw [List.take_succ_eq_append_getElem h, DiskWrite.bulkS_append]
  simp [DiskWrite.bulkS]
theorem DiskWrite.bulkS_le (l : List DiskWrite) (k : Nat) : DiskWrite.bulkS (l.take k) ≤ DiskWrite.bulkS l := by
  conv => rhs; rw [← List.take_append_drop k l, DiskWrite.bulkS_append]
  omega
theorem DiskWrite.bulk_at (l : List DiskWrite) (k : Nat) (h : k < l.length) : l[k].bulk ≤ DiskWrite.bulkS l := by
  have h1 := DiskWrite.bulkS_snoc l k h
  have h2 := DiskWrite.bulkS_le l (k + 1)
  omega
theorem DiskWrite.cells_snoc (l : List DiskWrite) (k : Nat) (h : k < l.length) : (l.take (k + 1)).flatMap DiskWrite.cells = (l.take k).flatMap DiskWrite.cells ++ l[k].cells := by
  rw [List.take_succ_eq_append_getElem h, List.flatMap_append]
  simp
theorem OwC.oDiskWrite {w : World} {x : DiskWrite} {us : List Value} {fp : List Nat} (h : OwC w x.cells us fp) :
    us = [.int .i64 x.kind, .string x.name, .string x.data] ∧ (Lit.int .i64 x.kind).wf = true ∧ x.name.size ≤ maxLen ∧ x.data.size ≤ maxLen ∧ fp = [] := by
  rw [DiskWrite.cells_eq] at h
  match us, OwC.length _ h with
  | [u0, u1, u2], _ =>
    simp only [OwC] at h
    obtain ⟨g0, _, h0, ⟨g1, _, h1, ⟨g2, _, h2, rfl, rfl⟩, rfl⟩, rfl⟩ := h
    simp only [Ow, okAtom] at h0
    obtain ⟨rfl, w0, rfl⟩ := h0
    simp only [Ow, okAtom] at h1
    obtain ⟨rfl, w1, rfl⟩ := h1
    simp only [Ow, okAtom] at h2
    obtain ⟨rfl, w2, rfl⟩ := h2
    exact ⟨rfl, w0, w1, w2, by simp⟩
theorem OwC.mDiskWrite {w : World} {x : DiskWrite} (w0 : (Lit.int .i64 x.kind).wf = true) (w1 : x.name.size ≤ maxLen) (w2 : x.data.size ≤ maxLen) :
    OwC w x.cells [.int .i64 x.kind, .string x.name, .string x.data] ([]) := by
  have h : OwC w x.cells [.int .i64 x.kind, .string x.name, .string x.data] ([] ++ ([] ++ ([] ++ ([])))) := by
    rw [DiskWrite.cells_eq]
    exact ⟨_, _, ⟨rfl, w0, rfl⟩, ⟨_, _, ⟨rfl, w1, rfl⟩, ⟨_, _, ⟨rfl, w2, rfl⟩, rfl, rfl⟩, rfl⟩, rfl⟩
  simpa using h
end Go.Proofs.YtddjgbhkfdpffaaGreatDoor
