/-
  A number is read back from its decimals; a text is cut at a byte: plain.
-/
import Derived.Test.YtnaecdoeldoipaaGreatDoorDec
import Derived.Lib.AtoiAllCases
import Derived.Lib.SplitLaws
set_option linter.unusedVariables false
set_option linter.unusedSimpArgs false
namespace Go.Proofs.YtnaecdoeldoipaaGreatDoor
open Go.ChangeShapes Go.WideShapes Go.ChangeAt Go.RowKit

theorem parse_app : ∀ (l r : List UInt8) (a b : Nat), Lib.parseUint10 a l = .ok b → Lib.parseUint10 a (l ++ r) = Lib.parseUint10 b r
  | [], r, a, b, h => by
    simp only [Lib.parseUint10] at h
    injection h with h
    rw [List.nil_append, h]
  | c :: l, r, a, b, h => by
    simp only [Lib.parseUint10, List.cons_append] at h ⊢
    split at h
    · rename_i h1
      rw [if_pos h1]
      split at h
      · cases h
      · rename_i h2
        rw [if_neg h2]
        split at h
        · cases h
        · rename_i h3
          rw [if_neg h3]
          exact parse_app l r _ b h
    · cases h
theorem u8_digit (d : Nat) (h : d < 10) : (UInt8.ofNat (48 + d)).toNat = 48 + d := by
  rw [UInt8.toNat_ofNat']
  omega
theorem parse_digits : ∀ (n u : Nat), u ≤ n → u < 18446744073709551616 → Lib.parseUint10 0 (Lib.decDigits u) = .ok u
  | n, u, hn, hu => by
    rw [Lib.decDigits]
    split
    · rename_i h
      simp only [Lib.parseUint10, u8_digit u h]
      rw [if_pos (by omega), if_neg (by omega), if_neg (by omega)]
      congr 1
      omega
    · rename_i h
      match n, hn with
      | 0, hn => omega
      | n + 1, hn =>
        rw [parse_app _ _ _ _ (parse_digits n (u / 10) (by omega) (by omega))]
        have h9 : u % 10 < 10 := Nat.mod_lt _ (by decide)
        simp only [Lib.parseUint10, u8_digit _ h9]
        rw [if_pos (by omega), if_neg (by omega), if_neg (by omega)]
        congr 1
        omega
theorem digits_first : ∀ (n u : Nat), u ≤ n → ∃ d r, d < 10 ∧ Lib.decDigits u = UInt8.ofNat (48 + d) :: r
  | n, u, hn => by
    rw [Lib.decDigits]
    split
    · rename_i h
      exact ⟨u, [], h, rfl⟩
    · match n, hn with
      | 0, hn => omega
      | n + 1, hn =>
        obtain ⟨d, r, hd, e⟩ := digits_first n (u / 10) (by omega)
        exact ⟨d, r ++ [UInt8.ofNat (48 + u % 10)], hd, by rw [e, List.cons_append]⟩
theorem dec_bytes (z : Int) : (dec z).data.toList = Lib.itoa z := by simp [dec]
theorem atoi_dec (z : Int) (h0 : -9223372036854775808 ≤ z) (h1 : z ≤ 9223372036854775807) : Lib.atoiAll (dec z).data.toList = .ok z := by
  rw [dec_bytes]
  unfold Lib.itoa
  split
  · rename_i h
    obtain ⟨d, r, hd, e⟩ := digits_first _ z.natAbs (Nat.le_refl _)
    rw [Lib.atoiAll_minus]
    unfold Lib.parseMag
    rw [if_neg (by rw [e]; simp), parse_digits _ z.natAbs (Nat.le_refl _) (by omega)]
    unfold Lib.signed
    simp only
    rw [if_neg (by omega)]
    congr 1
    omega
  · rename_i h
    have hp := parse_digits _ z.toNat (Nat.le_refl _) (by omega)
    obtain ⟨d, r, hd, e⟩ := digits_first _ z.toNat (Nat.le_refl _)
    rw [e] at hp ⊢
    rw [Lib.atoiAll_plain _ _ (by rw [u8_digit d hd]; omega) (by rw [u8_digit d hd]; omega)]
    unfold Lib.parseMag
    rw [if_neg (by simp), hp]
    unfold Lib.signless
    simp only
    rw [if_neg (by omega)]
    congr 1
    omega
/-- the number whose decimals a text is -/
def DecOf (s : ByteArray) (z : Int) : Prop := -9223372036854775808 ≤ z ∧ z ≤ 9223372036854775807 ∧ dec z = s
theorem DecOf.atoi {s : ByteArray} {z : Int} (h : DecOf s z) : Lib.atoiAll s.data.toList = .ok z := by
  rw [← h.2.2]
  exact atoi_dec z h.1 h.2.1
noncomputable def numOf (s : ByteArray) : Option Int := @dite _ (∃ z, DecOf s z) (Classical.propDecidable _) (fun h => some (Classical.choose h)) (fun _ => none)
theorem numOf_some {s : ByteArray} {z : Int} (h : DecOf s z) : numOf s = some z := by
  have hx : ∃ z, DecOf s z := ⟨z, h⟩
  unfold numOf
  rw [dif_pos hx]
  have h1 := (Classical.choose_spec hx).atoi
  rw [h.atoi] at h1
  injection h1 with h1
  rw [← h1]
theorem numOf_none {s : ByteArray} (h : ∀ z, ¬ DecOf s z) : numOf s = none := by
  unfold numOf
  rw [dif_neg (fun ⟨z, hz⟩ => h z hz)]
theorem numOf_dec (z : Int) (h0 : -9223372036854775808 ≤ z) (h1 : z ≤ 9223372036854775807) : numOf (dec z) = some z := numOf_some ⟨h0, h1, rfl⟩
theorem numOf_wf {s : ByteArray} {z : Int} (h : numOf s = some z) : DecOf s z := by
  unfold numOf at h
  split at h
  · rename_i hx
    injection h with h
    rw [← h]
    exact Classical.choose_spec hx
  · cases h
/-! cutting at one byte -/
theorem index_skip (c : UInt8) : ∀ (a r : List UInt8), (∀ b ∈ a, b ≠ c) → Lib.index (a ++ c :: r) [c] = (a.length : Int)
  | [], r, _ => by simp [Lib.index]
  | b :: a, r, h => by
    have hb := h b (by simp)
    have ih := index_skip c a r (fun x hx => h x (by simp [hx]))
    have e : ([c].isPrefixOf (b :: (a ++ c :: r))) = false := by
      simp [List.isPrefixOf, Ne.symm hb]
    rw [List.cons_append, Lib.index, if_neg (by rw [e]; simp), ih, if_neg (by simp)]
    simp
theorem index_miss (c : UInt8) : ∀ (a : List UInt8), (∀ b ∈ a, b ≠ c) → Lib.index a [c] = -1
  | [], _ => by simp [Lib.index]
  | b :: a, h => by
    have hb := h b (by simp)
    have ih := index_miss c a (fun x hx => h x (by simp [hx]))
    have e : ([c].isPrefixOf (b :: a)) = false := by
      simp [List.isPrefixOf, Ne.symm hb]
    rw [Lib.index, if_neg (by rw [e]; simp), ih]
    rfl
theorem splitK_miss (c : UInt8) (k : Nat) (a : List UInt8) (h : ∀ b ∈ a, b ≠ c) : Lib.splitK [c] 0 k a = [a] := by
  cases k with
  | zero => rfl
  | succ k =>
    rw [Lib.splitK, index_miss c a h]
    rfl
theorem splitK_hit (c : UInt8) (k : Nat) (a r : List UInt8) (h : ∀ b ∈ a, b ≠ c) : Lib.splitK [c] 0 (k + 1) (a ++ c :: r) = a :: Lib.splitK [c] 0 k r := by
  rw [Lib.splitK, index_skip c a r h, if_neg (by simp)]
  congr 1
  · simp
  · congr 1
    simp
/-- what a list of pieces is, put together with one byte between -/
def glue (c : UInt8) : List (List UInt8) → List UInt8
  | [] => []
  | [a] => a
  | a :: b :: l => a ++ c :: glue c (b :: l)
theorem glue_count (c : UInt8) : ∀ (l : List (List UInt8)), (∀ a ∈ l, ∀ b ∈ a, b ≠ c) → l ≠ [] → (glue c l).count c + 1 = l.length
  | [], _, h => absurd rfl h
  | [a], h, _ => by
    have : a.count c = 0 := List.count_eq_zero.2 (fun hm => h a (by simp) c hm rfl)
    simp [glue, this]
  | a :: b :: l, h, _ => by
    have : a.count c = 0 := List.count_eq_zero.2 (fun hm => h a (by simp) c hm rfl)
    have ih := glue_count c (b :: l) (fun x hx => h x (by simp [hx])) (by simp)
    simp only [glue, List.count_append, List.count_cons_self, List.length_cons] at ih ⊢
    omega
theorem glue_split (c : UInt8) : ∀ (l : List (List UInt8)) (k : Nat), (∀ a ∈ l, ∀ b ∈ a, b ≠ c) → l.length = k + 1 → Lib.splitK [c] 0 k (glue c l) = l
  | [], k, _, h => by simp at h
  | [a], k, h, hk => by
    obtain rfl : k = 0 := by simpa using hk.symm
    rfl
  | a :: b :: l, k, h, hk => by
    obtain ⟨m, rfl⟩ : ∃ m, k = m + 1 := ⟨k - 1, by simp at hk; omega⟩
    rw [glue, splitK_hit c m a _ (h a (by simp)), glue_split c (b :: l) m (fun x hx => h x (by simp [hx])) (by simpa using hk)]
def cutB (c : UInt8) (s : ByteArray) : List ByteArray := Lib.splitB ⟨#[c]⟩ 0 (Lib.countB s ⟨#[c]⟩) s
theorem bytes_inj {a b : ByteArray} (h : a.data.toList = b.data.toList) : a = b := by
  apply ByteArray.ext
  apply Array.ext'
  exact h
theorem map_bytes_inj : ∀ {a b : List ByteArray}, a.map (·.data.toList) = b.map (·.data.toList) → a = b
  | [], [], _ => rfl
  | [], y :: b, h => by simp at h
  | x :: a, [], h => by simp at h
  | x :: a, y :: b, h => by
    simp only [List.map_cons, List.cons.injEq] at h
    rw [bytes_inj h.1, map_bytes_inj h.2]
theorem cutB_glue (c : UInt8) (s : ByteArray) (l : List ByteArray) (hs : s.data.toList = glue c (l.map (·.data.toList))) (h : ∀ a ∈ l, ∀ b ∈ a.data.toList, b ≠ c) (h0 : l ≠ []) : cutB c s = l := by
  apply map_bytes_inj
  have hc : Lib.countB s ⟨#[c]⟩ = s.data.toList.count c := Lib.count_one c _
  have hh : ∀ a ∈ l.map (·.data.toList), ∀ b ∈ a, b ≠ c := fun a ha b hb => by
    obtain ⟨x, hx, rfl⟩ := List.mem_map.1 ha
    exact h x hx b hb
  have h1 := glue_count c (l.map (·.data.toList)) hh (by simpa using h0)
  unfold cutB
  rw [Lib.splitB_data, hc]
  show Lib.splitK [c] 0 _ _ = _
  rw [hs] at *
  exact glue_split c _ _ hh (by rw [List.length_map] at h1 ⊢; omega)
theorem cutB_len (c : UInt8) (s : ByteArray) : (cutB c s).length = Lib.countB s ⟨#[c]⟩ + 1 := Lib.splitB_all ⟨#[c]⟩ (Nat.le_refl 1) 0 _ s rfl
theorem cutB_le (c : UInt8) (s : ByteArray) : (cutB c s).length ≤ s.size + 1 := by
  have := Lib.countB_le ⟨#[c]⟩ (Nat.le_refl 1) _ s (Nat.le_refl _)
  rw [cutB_len]
  omega
end Go.Proofs.YtnaecdoeldoipaaGreatDoor
