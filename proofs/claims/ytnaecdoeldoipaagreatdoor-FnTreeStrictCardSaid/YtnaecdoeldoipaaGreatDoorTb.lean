/-
  The bytes of texts, names, and what a reader takes: plain.
-/
import Derived.Test.YtnaecdoeldoipaaGreatDoorName
set_option linter.unusedVariables false
set_option linter.unusedSimpArgs false
namespace Go.Proofs.YtnaecdoeldoipaaGreatDoor
open Go.ChangeShapes Go.WideShapes Go.ChangeAt Go.RowKit

/-- the bytes of a text -/
def bl (b : ByteArray) : List UInt8 := b.data.toList
theorem bl_app (a b : ByteArray) : bl (a ++ b) = bl a ++ bl b := by simp [bl, ByteArray.data_append]
theorem bl_nil : bl .empty = [] := rfl
theorem bl_mk (l : List UInt8) : bl ⟨l.toArray⟩ = l := by simp [bl]
theorem bl_len (b : ByteArray) : (bl b).length = b.size := by simp [bl]
theorem bl_inj {a b : ByteArray} (h : bl a = bl b) : a = b := ByteArray.ext (Array.toList_inj.1 h)
theorem bl_get (b : ByteArray) (i : Nat) (h : i < b.size) : (bl b)[i]'(by rw [bl_len]; exact h) = b[i] := by simp [bl]; rfl
def nameCh (c : UInt8) : Bool := (decide (97 ≤ c.toNat) && decide (c.toNat ≤ 122)) || (decide (48 ≤ c.toNat) && decide (c.toNat ≤ 57))
theorem nameCh_at {s : ByteArray} {k : Nat} {h : k < s.size} (ha : NameAt s k h) : nameCh s[k] = true := by
  unfold NameAt at ha
  simp only [nameCh, Bool.or_eq_true, Bool.and_eq_true, decide_eq_true_eq]
  omega
theorem nameOk_chars {s : ByteArray} (h : NameOk s) : (bl s).all nameCh = true := by
  rw [List.all_eq_true]
  intro x hx
  obtain ⟨i, hi, rfl⟩ := List.getElem_of_mem hx
  rw [bl_len] at hi
  rw [bl_get s i hi]
  exact nameCh_at (h.2.2 i hi)
theorem nameOk_head {s : ByteArray} (h : NameOk s) : ∃ c r, bl s = c :: r ∧ nameCh c = true := by
  have hc := nameOk_chars h
  have hl := bl_len s
  have h1 := h.1
  match hb : bl s with
  | [] => rw [hb] at hl; simp at hl; omega
  | c :: r => rw [hb] at hc; simp at hc; exact ⟨c, r, rfl, hc.1⟩
theorem nameCh_not {c d : UInt8} (h : nameCh c = true) (hd : nameCh d = false) : c ≠ d := fun e => by subst e; rw [h] at hd; cases hd

/-- a text that comes next is taken -/
def Eaten (u l : List UInt8) (ok : Bool) (l' : List UInt8) : Prop := (ok = true ∧ l = u ++ l') ∨ (ok = false ∧ l' = l ∧ ∀ r, l ≠ u ++ r)
theorem Eaten.yes {u l l' r : List UInt8} {ok : Bool} (h : Eaten u l ok l') (e : l = u ++ r) : ok = true ∧ l' = r := by
  rcases h with ⟨rfl, h⟩ | ⟨_, _, h⟩
  · exact ⟨rfl, List.append_cancel_left (h.symm.trans e)⟩
  · exact absurd e (h r)
theorem Eaten.le {u l l' : List UInt8} {ok : Bool} (h : Eaten u l ok l') : l'.length ≤ l.length := by
  rcases h with ⟨_, h⟩ | ⟨_, h, _⟩
  · rw [h, List.length_append]; omega
  · rw [h]; exact Nat.le_refl _
theorem Eaten.lt {u l l' : List UInt8} (h : Eaten u l true l') : l'.length + u.length = l.length := by
  rcases h with ⟨_, h⟩ | ⟨h, _⟩
  · rw [h, List.length_append]; omega
  · cases h
theorem Eaten.no {u l l' : List UInt8} (h : Eaten u l false l') : l' = l ∧ ∀ r, l ≠ u ++ r := by
  rcases h with ⟨h, _⟩ | ⟨_, h⟩
  · cases h
  · exact h
/-- a name is taken, and what follows it stays -/
def Named (l : List UInt8) (x : ByteArray) (l' : List UInt8) : Prop := l = bl x ++ l' ∧ ∀ n r, NameOk n → l = bl n ++ 58 :: r → x = n ∧ l' = 58 :: r
end Go.Proofs.YtnaecdoeldoipaaGreatDoor
