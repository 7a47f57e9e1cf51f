/-
  The text of a plan of a log, as the reference reads it: plain.
-/
import Derived.Test.YtddjgbhkfdpffaaGreatDoorOPlR
set_option linter.unusedVariables false
set_option linter.unusedSimpArgs false
namespace Go.Proofs.YtddjgbhkfdpffaaGreatDoor
open Go.ChangeShapes Go.WideShapes Go.ChangeAt Go.RowKit

def numK : Nat → Int → List UInt8 → Int × Nat
  | 0, acc, _ => (acc, 0)
  | _ + 1, acc, [] => (acc, 0)
  | k + 1, acc, b :: l => if 48 ≤ b.toNat ∧ b.toNat ≤ 57 then ((numK k (acc * 10 + ((b.toNat : Int) - 48)) l).1, (numK k (acc * 10 + ((b.toNat : Int) - 48)) l).2 + 1) else (acc, 0)
def numsK : Nat → List UInt8 → List Int × Nat
  | 0, _ => ([], 0)
  | n + 1, l => ((numK 7 0 l).1 :: (numsK n (l.drop ((numK 7 0 l).2 + 1))).1, (numK 7 0 l).2 + 1 + (numsK n (l.drop ((numK 7 0 l).2 + 1))).2)
theorem numsK_len : ∀ (n : Nat) (l : List UInt8), (numsK n l).1.length = n
  | 0, _ => rfl
  | n + 1, l => by simp [numsK, numsK_len n]
theorem numK_le : ∀ (k : Nat) (acc : Int) (l : List UInt8), (numK k acc l).2 ≤ k ∧ (numK k acc l).2 ≤ l.length
  | 0, acc, l => by simp [numK]
  | k + 1, acc, [] => by simp [numK]
  | k + 1, acc, b :: l => by
    have h := numK_le k (acc * 10 + ((b.toNat : Int) - 48)) l
    unfold numK
    split
    · simp only [List.length_cons]
      omega
    · simp
theorem numK_bd : ∀ (k : Nat) (acc : Int) (l : List UInt8), 0 ≤ acc → 0 ≤ (numK k acc l).1 ∧ (numK k acc l).1 + 1 ≤ (acc + 1) * 10 ^ k
  | 0, acc, l, h => by simp [numK]; omega
  | k + 1, acc, [], h => by
    have h10 : (1 : Int) ≤ 10 ^ (k + 1) := Int.pow_pos (n := 10) (m := k + 1) (by decide)
    have := Int.mul_le_mul_of_nonneg_left h10 (show 0 ≤ acc + 1 by omega)
    simp only [numK]
    omega
  | k + 1, acc, b :: l, h => by
    unfold numK
    split
    · rename_i hb
      have h1 := numK_bd k (acc * 10 + ((b.toNat : Int) - 48)) l (by omega)
      refine ⟨h1.1, Int.le_trans h1.2 ?_⟩
      have h10 : (0 : Int) ≤ 10 ^ k := Int.le_of_lt (Int.pow_pos (by decide))
      have h2 : (acc * 10 + ((b.toNat : Int) - 48) + 1) ≤ (acc + 1) * 10 := by omega
      have h3 := Int.mul_le_mul_of_nonneg_right h2 h10
      rw [Int.pow_succ, Int.mul_comm (10 ^ k) 10, ← Int.mul_assoc]
      exact h3
    · have h10 : (1 : Int) ≤ 10 ^ (k + 1) := Int.pow_pos (n := 10) (m := k + 1) (by decide)
      have := Int.mul_le_mul_of_nonneg_left h10 (show 0 ≤ acc + 1 by omega)
      simp only
      omega
theorem num7_bd (l : List UInt8) : 0 ≤ (numK 7 0 l).1 ∧ (numK 7 0 l).1 ≤ 9999999 := by
  have h := numK_bd 7 0 l (by decide)
  have e : ((0 : Int) + 1) * 10 ^ 7 = 10000000 := by decide
  rw [e] at h
  omega
theorem numsK_bd : ∀ (n : Nat) (l : List UInt8), ∀ z ∈ (numsK n l).1, 0 ≤ z ∧ z ≤ 9999999
  | 0, l, z, h => by simp [numsK] at h
  | n + 1, l, z, h => by
    simp only [numsK, List.mem_cons] at h
    rcases h with rfl | h
    · exact num7_bd l
    · exact numsK_bd n _ z h
theorem numsK_at : ∀ (n : Nat) (l : List UInt8), (numsK n l).2 ≤ 8 * n
  | 0, l => by simp [numsK]
  | n + 1, l => by
    have h1 := numsK_at n (l.drop ((numK 7 0 l).2 + 1))
    have h2 := (numK_le 7 0 l).1
    simp only [numsK]
    omega
def valD (acc : Int) (l : List UInt8) : Int := l.foldl (fun a d => a * 10 + ((d.toNat : Int) - 48)) acc
theorem numK_digits : ∀ (ds : List UInt8) (k : Nat) (acc : Int) (b : UInt8) (r : List UInt8), (∀ d ∈ ds, 48 ≤ d.toNat ∧ d.toNat ≤ 57) → ds.length ≤ k → ¬ (48 ≤ b.toNat ∧ b.toNat ≤ 57) → numK k acc (ds ++ b :: r) = (valD acc ds, ds.length)
  | [], 0, acc, b, r, _, _, hb => rfl
  | [], k + 1, acc, b, r, _, _, hb => by
    simp only [List.nil_append, numK, if_neg hb]
    rfl
  | d :: ds, 0, acc, b, r, _, h, _ => by simp at h
  | d :: ds, k + 1, acc, b, r, hd, hl, hb => by
    have ih := numK_digits ds k (acc * 10 + ((d.toNat : Int) - 48)) b r (fun x hx => hd x (by simp [hx])) (by simpa using hl) hb
    simp only [List.cons_append, numK]
    rw [if_pos (hd d (by simp)), ih]
    rfl
theorem valD_digits : ∀ (n u : Nat), u ≤ n → valD 0 (Lib.decDigits u) = (u : Int)
  | n, u, hn => by
    rw [Lib.decDigits]
    split
    · rename_i h
      simp only [valD, List.foldl_cons, List.foldl_nil, u8_digit u h]
      omega
    · match n, hn with
      | 0, hn => omega
      | n + 1, hn =>
        have h9 : u % 10 < 10 := Nat.mod_lt _ (by decide)
        have ih := valD_digits n (u / 10) (by omega)
        unfold valD at ih ⊢
        rw [List.foldl_append, ih]
        simp only [List.foldl_cons, List.foldl_nil, u8_digit _ h9]
        omega
theorem numK_dec (z : Int) (h0 : 0 ≤ z) (h1 : z ≤ 9999999) (b : UInt8) (r : List UInt8) (hb : ¬ (48 ≤ b.toNat ∧ b.toNat ≤ 57)) : numK 7 0 ((dec z).data.toList ++ b :: r) = (z, (dec z).data.toList.length) := by
  have e : (dec z).data.toList = Lib.decDigits z.toNat := by
    rw [dec_bytes]
    unfold Lib.itoa
    rw [if_neg (by omega)]
  rw [e, numK_digits _ _ _ _ _ (fun d hd => digits_mem _ _ (Nat.le_refl _) d hd) (decDigits_len 6 z.toNat (by omega)) hb, valD_digits _ _ (Nat.le_refl _)]
  congr 1
  omega
theorem numsK_decs (b : UInt8) (r : List UInt8) (hb : ¬ (48 ≤ b.toNat ∧ b.toNat ≤ 57)) : ∀ (zs : List Int), zs ≠ [] → (∀ z ∈ zs, 0 ≤ z ∧ z ≤ 9999999) → numsK zs.length (glue 32 (zs.map fun z => (dec z).data.toList) ++ b :: r) = (zs, (glue 32 (zs.map fun z => (dec z).data.toList)).length + 1)
  | [], h, _ => absurd rfl h
  | [z], _, h => by
    have hz := h z (by simp)
    have e := numK_dec z hz.1 hz.2 b r hb
    simp only [List.map_cons, List.map_nil, glue, List.length_cons, List.length_nil, numsK]
    rw [e]
  | z :: y :: zs, _, h => by
    have hz := h z (by simp)
    have ih := numsK_decs b r hb (y :: zs) (by simp) (fun x hx => h x (by simp [hx]))
    have e := numK_dec z hz.1 hz.2 32 (glue 32 ((y :: zs).map fun z => (dec z).data.toList) ++ b :: r) (by decide)
    have el : glue 32 ((z :: y :: zs).map fun z => (dec z).data.toList) ++ b :: r = (dec z).data.toList ++ 32 :: (glue 32 ((y :: zs).map fun z => (dec z).data.toList) ++ b :: r) := by
      simp [glue]
    rw [el, List.length_cons, numsK, e]
    simp only
    have ed : ((dec z).data.toList ++ 32 :: (glue 32 ((y :: zs).map fun z => (dec z).data.toList) ++ b :: r)).drop ((dec z).data.toList.length + 1) = glue 32 ((y :: zs).map fun z => (dec z).data.toList) ++ b :: r := by
      rw [List.drop_append]
      simp
    rw [ed, ih]
    simp [glue]
    omega
/-! where the parts of a plan's text begin -/
def LogPlan.at_ (p : LogPlan) (j : Nat) : Nat := (partLines (p.parts.take j)).size
theorem size_bytes (s : ByteArray) : s.size = s.data.toList.length := (Array.length_toList (xs := s.data)).symm
def LogPart.bytes (x : LogPart) : List UInt8 := (joinedText wSeal x.nums).data.toList ++ [10]
theorem LogPlan.rest (p : LogPlan) (j : Nat) (h : j ≤ p.parts.length) : p.text.data.toList.drop (p.at_ j) = (p.parts.drop j).flatMap LogPart.bytes ++ p.last.data.toList := by
  have e1 := lines_bytes (p.parts.take j) .empty
  have e2 := lines_bytes (p.parts.drop j) (partLines (p.parts.take j))
  have e3 : (p.parts.drop j).foldl (fun s x => s ++ LogPart.line x) (partLines (p.parts.take j)) = partLines p.parts := by
    unfold partLines
    rw [← List.foldl_append, List.take_append_drop]
  rw [e3] at e2
  unfold LogPlan.text LogPlan.at_
  rw [ByteArray.data_append, Array.toList_append, e2, size_bytes, List.append_assoc, List.drop_left]
  rfl
theorem LogPart.bytes_eq (x : LogPart) : x.bytes = [115, 101, 97, 108, 32] ++ (glue 32 (x.nums.map fun z => (dec z).data.toList) ++ [10]) := by
  unfold LogPart.bytes
  have e : x.nums.map (fun z => (dec z).data.toList) = (dec x.num).data.toList :: ([x.first, x.next, x.size].map fun z => (dec z).data.toList) := rfl
  rw [joined_bytes, e, glue_words]
  simp [wSeal, LogPart.nums]
theorem LogPlan.last_eq2 (p : LogPlan) : p.last.data.toList = [111, 112, 101, 110, 32] ++ (glue 32 ([p.open_, p.first].map fun z => (dec z).data.toList) ++ [10, 101, 110, 100, 10]) := by
  unfold LogPlan.last
  have e : joinedText ⟨#[111, 112, 101, 110]⟩ [p.open_, p.first] = joinedText wOpen [p.open_, p.first] := rfl
  rw [e, ByteArray.data_append, Array.toList_append, joined_bytes]
  simp [wOpen, glue]
theorem LogPlan.at_succ (p : LogPlan) (j : Nat) (h : j < p.parts.length) : p.at_ (j + 1) = p.at_ j + p.parts[j].bytes.length := by
  unfold LogPlan.at_
  rw [partLines_snoc _ _ h, ByteArray.size_append]
  congr 1
/-- one part read -/
theorem LogPlan.part_read (p : LogPlan) (hok : p.ok) (j : Nat) (h : j < p.parts.length) : (p.text.data.toList.drop (p.at_ j)).take 5 = [115, 101, 97, 108, 32] ∧ p.at_ j + 5 ≤ p.text.size ∧ numsK 4 (p.text.data.toList.drop (p.at_ j + 5)) = (p.parts[j].nums, p.parts[j].bytes.length - 5) ∧ 5 ≤ p.parts[j].bytes.length := by
  have hr := p.rest j (Nat.le_of_lt h)
  have hd : p.parts.drop j = p.parts[j] :: p.parts.drop (j + 1) := List.drop_eq_getElem_cons h
  have hs := p.small hok j h
  rw [hd, List.flatMap_cons] at hr
  generalize p.parts[j] = x at *
  rw [x.bytes_eq] at hr ⊢
  have hlen := congrArg List.length hr
  have hd5 : p.text.data.toList.drop (p.at_ j + 5) = (p.text.data.toList.drop (p.at_ j)).drop 5 := by rw [List.drop_drop]
  have hk := numsK_decs 10 ((p.parts.drop (j + 1)).flatMap LogPart.bytes ++ p.last.data.toList) (by decide) x.nums (by simp [LogPart.nums]) (fun z hz => by have := hs z hz; omega)
  rw [show x.nums.length = 4 from rfl] at hk
  have e5 : (p.text.data.toList.drop (p.at_ j)).drop 5 = glue 32 (x.nums.map fun z => (dec z).data.toList) ++ 10 :: ((p.parts.drop (j + 1)).flatMap LogPart.bytes ++ p.last.data.toList) := by
    rw [hr]
    simp
  refine ⟨by rw [hr]; simp, ?_, ?_, by simp⟩
  · rw [size_bytes]
    simp only [List.length_drop, List.length_append, List.length_cons] at hlen
    omega
  · rw [hd5, e5, hk]
    simp
theorem LogPlan.end_read (p : LogPlan) (hok : p.ok) : (p.text.data.toList.drop (p.at_ p.parts.length)).take 5 = [111, 112, 101, 110, 32] ∧ p.at_ p.parts.length + 5 ≤ p.text.size ∧ (numsK 2 (p.text.data.toList.drop (p.at_ p.parts.length + 5))).1 = [p.open_, p.first] := by
  have hr := p.rest p.parts.length (Nat.le_refl _)
  have hf := p.first_small hok
  have ho := hok.2.1
  rw [List.drop_length, List.flatMap_nil, List.nil_append, p.last_eq2] at hr
  have hlen := congrArg List.length hr
  have hd5 : p.text.data.toList.drop (p.at_ p.parts.length + 5) = (p.text.data.toList.drop (p.at_ p.parts.length)).drop 5 := by rw [List.drop_drop]
  have hk := numsK_decs 10 [101, 110, 100, 10] (by decide) [p.open_, p.first] (by simp) (fun z hz => by
    simp only [List.mem_cons, List.not_mem_nil, or_false] at hz
    rcases hz with rfl | rfl <;> omega)
  rw [show ([p.open_, p.first] : List Int).length = 2 from rfl] at hk
  have e5 : (p.text.data.toList.drop (p.at_ p.parts.length)).drop 5 = glue 32 ([p.open_, p.first].map fun z => (dec z).data.toList) ++ 10 :: [101, 110, 100, 10] := by
    rw [hr]
    simp
  refine ⟨by rw [hr]; simp, ?_, ?_⟩
  · rw [size_bytes]
    simp only [List.length_drop, List.length_append, List.length_cons] at hlen
    omega
  · rw [hd5, e5, hk]
/-- how far a reader is: parts ps read, the place at -/
def ReadAt (s : ByteArray) (ps : List LogPart) (a : Nat) : Prop := ∀ p : LogPlan, p.ok → p.text = s → ∃ j, j ≤ p.parts.length ∧ ps = p.parts.take j ∧ a = p.at_ j
theorem readAt_zero (s : ByteArray) : ReadAt s [] 0 := fun p _ _ => ⟨0, Nat.zero_le _, by simp, rfl⟩
theorem readAt_step {s : ByteArray} {ps : List LogPart} {a : Nat} (h : ReadAt s ps a) (h5 : (s.data.toList.drop a).take 5 = [115, 101, 97, 108, 32]) :
    ReadAt s (ps ++ [⟨(numsK 4 (s.data.toList.drop (a + 5))).1.getD 0 0, (numsK 4 (s.data.toList.drop (a + 5))).1.getD 1 0, (numsK 4 (s.data.toList.drop (a + 5))).1.getD 2 0, (numsK 4 (s.data.toList.drop (a + 5))).1.getD 3 0⟩]) (a + 5 + (numsK 4 (s.data.toList.drop (a + 5))).2) := by
  intro p hp ht
  obtain ⟨j, hj, rfl, rfl⟩ := h p hp ht
  subst ht
  by_cases hlt : j < p.parts.length
  · obtain ⟨_, _, h3, h4⟩ := p.part_read hp j hlt
    rw [h3]
    refine ⟨j + 1, hlt, ?_, ?_⟩
    · rw [List.take_succ_eq_append_getElem hlt]
      congr 1
    · rw [p.at_succ j hlt]
      omega
  · obtain rfl : j = p.parts.length := by omega
    have := (p.end_read hp).1
    rw [this] at h5
    simp at h5
theorem readAt_stop {s : ByteArray} {ps : List LogPart} {a : Nat} (h : ReadAt s ps a) (h5 : a + 5 ≤ s.size → (s.data.toList.drop a).take 5 = [115, 101, 97, 108, 32] → ¬ ps.length ≤ 40) :
    ∀ p : LogPlan, p.ok → p.text = s → a + 5 ≤ s.size ∧ (⟨ps, (numsK 2 (s.data.toList.drop (a + 5))).1.getD 0 0, (numsK 2 (s.data.toList.drop (a + 5))).1.getD 1 0⟩ : LogPlan) = p := by
  intro p hp ht
  obtain ⟨j, hj, rfl, rfl⟩ := h p hp ht
  subst ht
  by_cases hlt : j < p.parts.length
  · obtain ⟨h1, h2, _, _⟩ := p.part_read hp j hlt
    refine absurd ?_ (h5 h2 h1)
    have := hp.1
    rw [List.length_take]
    omega
  · obtain rfl : j = p.parts.length := by omega
    obtain ⟨_, h2, h3⟩ := p.end_read hp
    refine ⟨h2, ?_⟩
    rw [h3, List.take_length]
    rfl
end Go.Proofs.YtddjgbhkfdpffaaGreatDoor
