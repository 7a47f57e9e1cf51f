/-
  A number is read back from its decimals; a text is cut at a byte: plain. The text of a plan of a log, as the program reads it: plain. The text of a plan of a log, as the reference reads it: plain. Reading trees from texts: the plain law. A reader that takes the text of each tree that is good. Reading trees from texts: each way through a reader, plain laws.
-/
import Derived.Lib.AtoiAllCases
import Derived.Lib.SplitLaws
import Derived.Test.YtnaecdoeldoipaaGreatDoorKRead
import Derived.Test.YtnaecdoeldoipaaGreatDoorKPlanT
set_option linter.unusedVariables false
set_option linter.unusedSimpArgs false
namespace Go.Proofs.YtnaecdoeldoipaaGreatDoor
open Go.ChangeShapes Go.WideShapes Go.ChangeAt Go.RowKit

theorem parse_app : ∀ (l r : List UInt8) (a b : Nat), Lib.parseUint10 a l = .ok b → Lib.parseUint10 a (l ++ r) = Lib.parseUint10 b r
  | [], r, a, b, h => by
    simp only [Lib.parseUint10] at h
    injection h with h
    rw [List.nil_append, h]
  | c :: l, r, a, b, h => by
    simp only [Lib.parseUint10, List.cons_append] at h ⊢
    split at h
    · rename_i h1
      rw [if_pos h1]
      split at h
      · cases h
      · rename_i h2
        rw [if_neg h2]
        split at h
        · cases h
        · rename_i h3
          rw [if_neg h3]
          exact parse_app l r _ b h
    · cases h
theorem u8_digit (d : Nat) (h : d < 10) : (UInt8.ofNat (48 + d)).toNat = 48 + d := by
  rw [UInt8.toNat_ofNat']
  omega
theorem parse_digits : ∀ (n u : Nat), u ≤ n → u < 18446744073709551616 → Lib.parseUint10 0 (Lib.decDigits u) = .ok u
  | n, u, hn, hu => by
    rw [Lib.decDigits]
    split
    · rename_i h
      simp only [Lib.parseUint10, u8_digit u h]
      rw [if_pos (by omega), if_neg (by omega), if_neg (by omega)]
      congr 1
      omega
    · rename_i h
      match n, hn with
      | 0, hn => omega
      | n + 1, hn =>
        rw [parse_app _ _ _ _ (parse_digits n (u / 10) (by omega) (by omega))]
        have h9 : u % 10 < 10 := Nat.mod_lt _ (by decide)
        simp only [Lib.parseUint10, u8_digit _ h9]
        rw [if_pos (by omega), if_neg (by omega), if_neg (by omega)]
        congr 1
        omega
theorem digits_first : ∀ (n u : Nat), u ≤ n → ∃ d r, d < 10 ∧ Lib.decDigits u = UInt8.ofNat (48 + d) :: r
  | n, u, hn => by
    rw [Lib.decDigits]
    split
    · rename_i h
      exact ⟨u, [], h, rfl⟩
    · match n, hn with
      | 0, hn => omega
      | n + 1, hn =>
        obtain ⟨d, r, hd, e⟩ := digits_first n (u / 10) (by omega)
        exact ⟨d, r ++ [UInt8.ofNat (48 + u % 10)], hd, by rw [e, List.cons_append]⟩
theorem dec_bytes (z : Int) : (dec z).data.toList = Lib.itoa z := by simp [dec]
theorem atoi_dec (z : Int) (h0 : -9223372036854775808 ≤ z) (h1 : z ≤ 9223372036854775807) : Lib.atoiAll (dec z).data.toList = .ok z := by
  rw [dec_bytes]
  unfold Lib.itoa
  split
  · rename_i h
    obtain ⟨d, r, hd, e⟩ := digits_first _ z.natAbs (Nat.le_refl _)
    rw [Lib.atoiAll_minus]
    unfold Lib.parseMag
    rw [if_neg (by rw [e]; simp), parse_digits _ z.natAbs (Nat.le_refl _) (by omega)]
    unfold Lib.signed
    simp only
    rw [if_neg (by omega)]
    congr 1
    omega
  · rename_i h
    have hp := parse_digits _ z.toNat (Nat.le_refl _) (by omega)
    obtain ⟨d, r, hd, e⟩ := digits_first _ z.toNat (Nat.le_refl _)
    rw [e] at hp ⊢
    rw [Lib.atoiAll_plain _ _ (by rw [u8_digit d hd]; omega) (by rw [u8_digit d hd]; omega)]
    unfold Lib.parseMag
    rw [if_neg (by simp), hp]
    unfold Lib.signless
    simp only
    rw [if_neg (by omega)]
    congr 1
    omega
/-- the number whose decimals a text is -/
def DecOf (s : ByteArray) (z : Int) : Prop := -9223372036854775808 ≤ z ∧ z ≤ 9223372036854775807 ∧ dec z = s
theorem DecOf.atoi {s : ByteArray} {z : Int} (h : DecOf s z) : Lib.atoiAll s.data.toList = .ok z := by
  rw [← h.2.2]
  exact atoi_dec z h.1 h.2.1
noncomputable def numOf (s : ByteArray) : Option Int := @dite _ (∃ z, DecOf s z) (Classical.propDecidable _) (fun h => some (Classical.choose h)) (fun _ => none)
theorem numOf_some {s : ByteArray} {z : Int} (h : DecOf s z) : numOf s = some z := by
  have hx : ∃ z, DecOf s z := ⟨z, h⟩
  unfold numOf
  rw [dif_pos hx]
  have h1 := (Classical.choose_spec hx).atoi
  rw [h.atoi] at h1
  injection h1 with h1
  rw [← h1]
theorem numOf_none {s : ByteArray} (h : ∀ z, ¬ DecOf s z) : numOf s = none := by
  unfold numOf
  rw [dif_neg (fun ⟨z, hz⟩ => h z hz)]
theorem numOf_dec (z : Int) (h0 : -9223372036854775808 ≤ z) (h1 : z ≤ 9223372036854775807) : numOf (dec z) = some z := numOf_some ⟨h0, h1, rfl⟩
/-! cutting at one byte -/
theorem bytes_inj {a b : ByteArray} (h : a.data.toList = b.data.toList) : a = b := by
  apply ByteArray.ext
  apply Array.ext'
  exact h
end Go.Proofs.YtnaecdoeldoipaaGreatDoor
set_option linter.unusedVariables false
set_option linter.unusedSimpArgs false
namespace Go.Proofs.YtnaecdoeldoipaaGreatDoor
open Go.ChangeShapes Go.WideShapes Go.ChangeAt Go.RowKit

def wSeal : ByteArray := ⟨#[115, 101, 97, 108]⟩
/-! what a plan's text is cut into -/
theorem digits_mem : ∀ (n u : Nat), u ≤ n → ∀ b ∈ Lib.decDigits u, 48 ≤ b.toNat ∧ b.toNat ≤ 57
  | n, u, hn, b, hb => by
    rw [Lib.decDigits] at hb
    split at hb
    · rename_i h
      simp only [List.mem_singleton] at hb
      rw [hb, u8_digit u h]
      omega
    · match n, hn with
      | 0, hn => omega
      | n + 1, hn =>
        have h9 : u % 10 < 10 := Nat.mod_lt _ (by decide)
        rcases List.mem_append.1 hb with hb | hb
        · exact digits_mem n (u / 10) (by omega) b hb
        · simp only [List.mem_singleton] at hb
          rw [hb, u8_digit _ h9]
          omega
theorem dec_mem (z : Int) (b : UInt8) (hb : b ∈ (dec z).data.toList) : b.toNat = 45 ∨ (48 ≤ b.toNat ∧ b.toNat ≤ 57) := by
  rw [dec_bytes] at hb
  unfold Lib.itoa at hb
  split at hb
  · rcases List.mem_cons.1 hb with rfl | hb
    · exact .inl rfl
    · exact .inr (digits_mem _ _ (Nat.le_refl _) b hb)
  · exact .inr (digits_mem _ _ (Nat.le_refl _) b hb)
theorem lines_bytes : ∀ (l : List LogPart) (s : ByteArray), (l.foldl (fun s x => s ++ LogPart.line x) s).data.toList = s.data.toList ++ l.flatMap (fun x => (joinedText wSeal x.nums).data.toList ++ [10])
  | [], s => by simp
  | x :: l, s => by
    rw [List.foldl_cons, lines_bytes l]
    have e : x.line = joinedText wSeal x.nums ++ ⟨#[10]⟩ := rfl
    rw [e]
    simp [ByteArray.data_append]
def LogPlan.zero : LogPlan := ⟨[], 0, 0⟩
end Go.Proofs.YtnaecdoeldoipaaGreatDoor
set_option linter.unusedVariables false
set_option linter.unusedSimpArgs false
namespace Go.Proofs.YtnaecdoeldoipaaGreatDoor
open Go.ChangeShapes Go.WideShapes Go.ChangeAt Go.RowKit

def numK : Nat → Int → List UInt8 → Int × Nat
  | 0, acc, _ => (acc, 0)
  | _ + 1, acc, [] => (acc, 0)
  | k + 1, acc, b :: l => if 48 ≤ b.toNat ∧ b.toNat ≤ 57 then ((numK k (acc * 10 + ((b.toNat : Int) - 48)) l).1, (numK k (acc * 10 + ((b.toNat : Int) - 48)) l).2 + 1) else (acc, 0)
def valD (acc : Int) (l : List UInt8) : Int := l.foldl (fun a d => a * 10 + ((d.toNat : Int) - 48)) acc
theorem valD_digits : ∀ (n u : Nat), u ≤ n → valD 0 (Lib.decDigits u) = (u : Int)
  | n, u, hn => by
    rw [Lib.decDigits]
    split
    · rename_i h
      simp only [valD, List.foldl_cons, List.foldl_nil, u8_digit u h]
      omega
    · match n, hn with
      | 0, hn => omega
      | n + 1, hn =>
        have h9 : u % 10 < 10 := Nat.mod_lt _ (by decide)
        have ih := valD_digits n (u / 10) (by omega)
        unfold valD at ih ⊢
        rw [List.foldl_append, ih]
        simp only [List.foldl_cons, List.foldl_nil, u8_digit _ h9]
        omega
/-! where the parts of a plan's text begin -/
def LogPlan.at_ (p : LogPlan) (j : Nat) : Nat := (partLines (p.parts.take j)).size
theorem size_bytes (s : ByteArray) : s.size = s.data.toList.length := (Array.length_toList (xs := s.data)).symm
def LogPart.bytes (x : LogPart) : List UInt8 := (joinedText wSeal x.nums).data.toList ++ [10]
theorem LogPlan.rest (p : LogPlan) (j : Nat) (h : j ≤ p.parts.length) : p.text.data.toList.drop (p.at_ j) = (p.parts.drop j).flatMap LogPart.bytes ++ p.last.data.toList := by
  have e1 := lines_bytes (p.parts.take j) .empty
  have e2 := lines_bytes (p.parts.drop j) (partLines (p.parts.take j))
  have e3 : (p.parts.drop j).foldl (fun s x => s ++ LogPart.line x) (partLines (p.parts.take j)) = partLines p.parts := by
    unfold partLines
    rw [← List.foldl_append, List.take_append_drop]
  rw [e3] at e2
  unfold LogPlan.text LogPlan.at_
  rw [ByteArray.data_append, Array.toList_append, e2, size_bytes, List.append_assoc, List.drop_left]
  rfl
end Go.Proofs.YtnaecdoeldoipaaGreatDoor
set_option linter.unusedVariables false
set_option linter.unusedSimpArgs false
namespace Go.Proofs.YtnaecdoeldoipaaGreatDoor
open Go.ChangeShapes Go.WideShapes Go.ChangeAt Go.RowKit

/-- what may stand behind a tree's text -/
def Ender (R : List UInt8) : Prop := ∀ c r, R = c :: r → c = 44 ∨ c = 93 ∨ c = 125
theorem Ender.nil : Ender [] := fun c r h => by cases h
theorem Ender.cons {c : UInt8} {r : List UInt8} (h : c = 44 ∨ c = 93 ∨ c = 125) : Ender (c :: r) := fun d q e => by
  injection e with e _
  rw [← e]
  exact h
/-- the kids' text; c: no comma stands ahead -/
def trS (s : Int) : Bool → List ByteArray → List Tree → List UInt8
  | _, _, [] => []
  | c, ns, k :: ks => (if c = true then [] else [44]) ++ ((if s = 5 then bl (ns.headD .empty) ++ [58] else []) ++ (bl k.wr ++ trS s false ns.tail ks))
theorem trS_eq (s : Int) : ∀ (ks : List Tree) (ns : List ByteArray) (i : Nat), bl (Tree.wrS s ns i ks) = trS s (i == 0) (ns.drop i) ks
  | [], ns, i => by simp [Tree.wrS, trS, bl_nil]
  | k :: ks, ns, i => by
    have e1 : (ns.drop i).headD .empty = ns[i]?.getD .empty := by
      rw [List.headD_eq_head?_getD, List.head?_drop]
    have e2 : (ns.drop i).tail = ns.drop (i + 1) := by rw [List.tail_drop]
    have e3 : (i + 1 == 0) = false := by simp
    rw [Tree.wrS, bl_app, bl_app, trS_eq s ks ns (i + 1), trS, e1, e2, e3]
    unfold kidHead
    rw [bl_app]
    by_cases hi : i = 0 <;> by_cases hs : s = 5 <;> simp [hi, hs, bl, bl_app, ByteArray.data_append]
/-- names and kids that fit -/
def Fits (s : Int) (ns : List ByteArray) (ks : List Tree) : Prop := (s = 5 ∧ ns.length = ks.length ∧ ∀ n ∈ ns, NameOk n) ∨ (s = 4 ∧ ns = [])
theorem empty_of {x : ByteArray} (h : x.toList = []) : x = .empty := bl_inj (by rw [Lib.toList_data] at h; exact h)
theorem text_no34 {x : ByteArray} (h : TextOk x) : ∀ y ∈ bl x, y ≠ 34 := by
  intro y hy
  obtain ⟨i, hi, rfl⟩ := List.getElem_of_mem hy
  rw [bl_len] at hi
  rw [bl_get x i hi]
  have := h.2 i hi
  unfold TextAt at this
  intro e
  rw [e] at this
  exact absurd this (by decide)
theorem Tree.read_cases {k : Tree} {lv : Nat} (h : k.good lv) (l R : List UInt8) (hl : l = bl k.wr ++ R) :
    (∃ n, k = .mk 1 n .empty [] [] ∧ (-999999999 ≤ n ∧ n ≤ 999999999) ∧ l = bl (dec n) ++ R) ∨ (∃ x, k = .mk 2 0 x [] [] ∧ x.size ≤ 60 ∧ (∀ y ∈ bl x, y ≠ 34) ∧ l = 34 :: (bl x ++ 34 :: R)) ∨
    (k = .mk 3 1 .empty [] [] ∧ l = 121 :: 101 :: 115 :: R) ∨ (k = .mk 3 0 .empty [] [] ∧ l = 110 :: 111 :: R) ∨
    (∃ ks, k = .mk 4 0 .empty [] ks ∧ Tree.goodS ks (lv + 1) ∧ l = 91 :: (trS 4 true [] ks ++ 93 :: R)) ∨
    (∃ ns ks, k = .mk 5 0 .empty ns ks ∧ Fits 5 ns ks ∧ Tree.goodS ks (lv + 1) ∧ l = 123 :: (trS 5 true ns ks ++ 125 :: R)) ∨
    (k = .mk 6 0 .empty [] [] ∧ l = 126 :: R) ∨ (∃ x, k = .mk 6 0 .empty [] [x] ∧ x.good (lv + 1) ∧ l = 63 :: (bl x.wr ++ R)) := by
  have hg := (Tree.good_iff _ _).1 h
  match k, hg, hl with
  | .mk s n x ns ks, hg, hl =>
    have hs := hg.2.1
    unfold Tree.shape at hs
    simp only [Tree.sort, Tree.num, Tree.text, Tree.names, Tree.kids] at hs hg
    subst hl
    rcases hs with ⟨rfl, h1, h2, h3, h4⟩ | ⟨rfl, rfl, h2, h3, h4⟩ | ⟨rfl, h1, h2, h3, h4⟩ | ⟨rfl, rfl, h2, h3, h4⟩ | ⟨rfl, rfl, h2, h3, h4⟩ | ⟨rfl, rfl, h2, h3, h4⟩
    · have e3 := List.eq_nil_of_length_eq_zero h3
      have e4 := List.eq_nil_of_length_eq_zero h4
      subst e3 e4
      rw [empty_of h2]
      exact .inl ⟨n, rfl, h1, by rw [Tree.wr, if_pos rfl]⟩
    · have e3 := List.eq_nil_of_length_eq_zero h3
      have e4 := List.eq_nil_of_length_eq_zero h4
      subst e3 e4
      exact .inr (.inl ⟨x, rfl, h2.1, text_no34 h2, by rw [Tree.wr, if_neg (by decide), if_pos rfl, bl_app, bl_app]; simp [bl]⟩)
    · have e3 := List.eq_nil_of_length_eq_zero h3
      have e4 := List.eq_nil_of_length_eq_zero h4
      subst e3 e4
      rw [empty_of h2]
      obtain rfl | rfl : n = 1 ∨ n = 0 := by omega
      · exact .inr (.inr (.inl ⟨rfl, by rw [Tree.wr, if_neg (by decide), if_neg (by decide), if_pos rfl, if_pos rfl]; rfl⟩))
      · exact .inr (.inr (.inr (.inl ⟨rfl, by rw [Tree.wr, if_neg (by decide), if_neg (by decide), if_pos rfl, if_neg (by decide)]; rfl⟩)))
    · have e3 := List.eq_nil_of_length_eq_zero h3
      subst e3
      rw [empty_of h2]
      refine .inr (.inr (.inr (.inr (.inl ⟨ks, rfl, hg.2.2, ?_⟩))))
      rw [Tree.wr, if_neg (by decide), if_neg (by decide), if_neg (by decide), if_pos rfl, bl_app, bl_app, trS_eq]
      simp [bl]
    · rw [empty_of h2]
      refine .inr (.inr (.inr (.inr (.inr (.inl ⟨ns, ks, rfl, .inl ⟨rfl, h4, fun y hy => by obtain ⟨i, hi, rfl⟩ := List.getElem_of_mem hy; exact (h3 i hi).1⟩, hg.2.2, ?_⟩)))))
      rw [Tree.wr, if_neg (by decide), if_neg (by decide), if_neg (by decide), if_neg (by decide), if_pos rfl, bl_app, bl_app, trS_eq]
      simp [bl]
    · have e3 := List.eq_nil_of_length_eq_zero h3
      subst e3
      rw [empty_of h2]
      match ks, h4, hg.2.2 with
      | [], _, _ => exact .inr (.inr (.inr (.inr (.inr (.inr (.inl ⟨rfl, by rw [Tree.wr, if_neg (by decide), if_neg (by decide), if_neg (by decide), if_neg (by decide), if_neg (by decide), Tree.wrM]; rfl⟩))))))
      | [x], _, hgx =>
        simp only [Tree.goodS] at hgx
        refine .inr (.inr (.inr (.inr (.inr (.inr (.inr ⟨x, rfl, hgx.1, ?_⟩))))))
        rw [Tree.wr, if_neg (by decide), if_neg (by decide), if_neg (by decide), if_neg (by decide), if_neg (by decide), Tree.wrM, bl_app]
        simp [bl]
theorem dec_head (z : Int) : ∃ c r, bl (dec z) = c :: r ∧ (c = 45 ∨ (48 ≤ c.toNat ∧ c.toNat ≤ 57)) := by
  have hne : bl (dec z) ≠ [] := by
    unfold bl
    rw [dec_bytes]
    unfold Lib.itoa
    split
    · simp
    · rw [Lib.decDigits]
      split <;> simp
  match hb : bl (dec z), hne with
  | c :: r, _ =>
    refine ⟨c, r, rfl, ?_⟩
    rcases dec_mem z c (show c ∈ bl (dec z) by rw [hb]; simp) with h | h
    · exact .inl (UInt8.toNat_inj.1 h)
    · exact .inr h
theorem Tree.wr_head {k : Tree} {lv : Nat} (h : k.good lv) : ∃ c r, bl k.wr = c :: r ∧ c ≠ 44 ∧ c ≠ 93 ∧ c ≠ 125 := by
  rcases Tree.read_cases h _ [] (List.append_nil _).symm with ⟨n, _, _, e⟩ | ⟨x, _, _, _, e⟩ | ⟨_, e⟩ | ⟨_, e⟩ | ⟨ks, _, _, e⟩ | ⟨ns, ks, _, _, _, e⟩ | ⟨_, e⟩ | ⟨x, _, _, e⟩
  · obtain ⟨c, r, e2, hc⟩ := dec_head n
    rw [e2, List.append_nil] at e
    refine ⟨c, r, e, ?_, ?_, ?_⟩ <;> (rintro rfl; revert hc; decide)
  all_goals exact ⟨_, _, e, by decide, by decide, by decide⟩
/-- what a reader of trees does at a level -/
def TakesT (lv : Nat) (l : List UInt8) (bad : Bool) (k : Tree) (l' : List UInt8) (bad' : Bool) : Prop :=
  ∀ (k0 : Tree) (R : List UInt8), k0.good lv → Ender R → bad = false → l = bl k0.wr ++ R → k = k0 ∧ bad' = false ∧ l' = R
/-- how much was read for how much came of it -/
def Paid (lv : Nat) (l : List UInt8) (n : Nat) (l' : List UInt8) (bad' : Bool) : Prop :=
  l'.length ≤ l.length ∧ n ≤ 4 * (l.length - l'.length) + 4 * (8 - lv) ∧ (bad' = false → l'.length < l.length ∧ n + 1 ≤ 4 * (l.length - l'.length))
theorem TakesT.bad {lv : Nat} {l l' : List UInt8} {k : Tree} {b : Bool} : TakesT lv l true k l' b := fun k0 R _ _ h _ => by cases h
theorem TakesT.deep {lv : Nat} {l l' : List UInt8} {k : Tree} {b b' : Bool} (h : 6 < lv) : TakesT lv l b k l' b' := fun k0 R hg _ _ _ => by
  have := ((Tree.good_iff _ _).1 hg).1
  omega
theorem Paid.none (lv : Nat) (l : List UInt8) : Paid lv l 0 l true := ⟨Nat.le_refl _, by omega, fun h => by cases h⟩
/-! ### the parts of a list or form -/
def endOf (s : Int) : UInt8 := if s = 5 then 125 else 93
def PartsAt (s : Int) (lv : Nat) (l0 : List UInt8) (c b : Bool) (ns : List ByteArray) (ks : List Tree) (l : List UInt8) : Prop :=
  ∀ (ns0 : List ByteArray) (ks0 : List Tree) (R : List UInt8), Fits s ns0 ks0 → Tree.goodS ks0 (lv + 1) → l0 = trS s true ns0 ks0 ++ endOf s :: R →
    b = false ∧ ∃ ns1 ks1, ns0 = ns ++ ns1 ∧ ks0 = ks ++ ks1 ∧ Fits s ns1 ks1 ∧ l = trS s c ns1 ks1 ++ endOf s :: R
theorem PartsAt.start (s : Int) (lv : Nat) (l0 : List UInt8) : PartsAt s lv l0 true false [] [] l0 := fun ns0 ks0 R hn hg e => ⟨rfl, ns0, ks0, rfl, rfl, hn, e⟩
theorem endOf_ender (s : Int) (r : List UInt8) : Ender (endOf s :: r) := Ender.cons (by unfold endOf; split <;> simp)
theorem trS_ender (s : Int) (ns : List ByteArray) (ks : List Tree) (R : List UInt8) : Ender (trS s false ns ks ++ endOf s :: R) := by
  cases ks with
  | nil => exact endOf_ender s R
  | cons k ks =>
    simp only [trS, Bool.false_eq_true, if_false, List.cons_append, List.nil_append]
    exact Ender.cons (.inl rfl)
/-- what stands ahead of a part's tree -/
def Ahead (s : Int) (nx : List ByteArray) (l2 l4 : List UInt8) (ok1 b4 : Bool) : Prop :=
  (s = 5 ∧ ∃ x l3 ok2, nx = [x] ∧ Named l2 x l3 ∧ Eaten [58] l3 ok2 l4 ∧ (ok1 = true → ok2 = true → b4 = false)) ∨ (s = 4 ∧ nx = [] ∧ l4 = l2 ∧ (ok1 = true → b4 = false))
/-- one part more: a comma, if one is wanted, a name and a colon in a form, a tree -/
theorem PartsAt.step {s : Int} {lv : Nat} {l0 l l2 l4 l5 : List UInt8} {c ok1 b4 b5 : Bool} {ns nx : List ByteArray} {ks : List Tree} {k : Tree} (h : PartsAt s lv l0 c false ns ks l) (hne : ∀ r, l ≠ endOf s :: r)
    (h1 : (c = true ∧ l2 = l ∧ ok1 = true) ∨ (c = false ∧ Eaten [44] l ok1 l2))
    (h2 : Ahead s nx l2 l4 ok1 b4)
    (h4 : TakesT (lv + 1) l4 b4 k l5 b5) : PartsAt s lv l0 false b5 (ns ++ nx) (ks ++ [k]) l5 := by
  intro ns0 ks0 R hn hg e
  obtain ⟨_, ns1, ks1, e1, e2, e3, e4⟩ := h ns0 ks0 R hn hg e
  match ks1, e2, e3, e4 with
  | [], _, _, e4 => exact absurd e4 (hne R)
  | k0 :: ks2, e2, e3, e4 =>
    have hgk : k0.good (lv + 1) := Tree.goodS_mem _ _ hg k0 (by rw [e2]; simp)
    have hl2 : ok1 = true ∧ l2 = ((if s = 5 then bl (ns1.headD .empty) ++ [58] else []) ++ (bl k0.wr ++ trS s false ns1.tail ks2)) ++ endOf s :: R := by
      rcases h1 with ⟨rfl, rfl, ho⟩ | ⟨rfl, ho⟩
      · exact ⟨ho, by rw [e4]; simp [trS]⟩
      · exact ho.yes (by rw [e4]; simp [trS])
    rcases h2 with ⟨rfl, x, l3, ok2, rfl, hnm, he, hb⟩ | ⟨rfl, rfl, rfl, hb⟩
    · rcases e3 with ⟨_, hl, hno⟩ | ⟨h5, _⟩
      · match ns1, hl, hno, e1, hl2 with
        | n :: ns2, hl, hno, e1, hl2 =>
          simp only [if_true, List.headD_cons, List.tail_cons] at hl2
          have hnn : NameOk n := hno n (by simp)
          obtain ⟨rfl, hl3⟩ := hnm.2 n (bl k0.wr ++ (trS 5 false ns2 ks2 ++ endOf 5 :: R)) hnn (by rw [hl2.2]; simp [List.append_assoc])
          obtain ⟨ho2, hl4⟩ := he.yes (r := bl k0.wr ++ (trS 5 false ns2 ks2 ++ endOf 5 :: R)) (by rw [hl3]; simp)
          obtain ⟨rfl, hb5, hl5⟩ := h4 k0 _ hgk (trS_ender 5 ns2 ks2 R) (hb hl2.1 ho2) hl4
          exact ⟨hb5, ns2, ks2, by rw [e1]; simp, by rw [e2]; simp, .inl ⟨rfl, by simpa using hl, fun m hm => hno m (by simp [hm])⟩, hl5⟩
      · exact absurd h5 (by decide)
    · rcases e3 with ⟨h5, _⟩ | ⟨_, rfl⟩
      · exact absurd h5 (by decide)
      · have e5 : l4 = bl k0.wr ++ (trS 4 false [] ks2 ++ endOf 4 :: R) := by
          rw [hl2.2, if_neg (by decide)]
          simp
        obtain ⟨rfl, hb5, hl5⟩ := h4 k0 _ hgk (trS_ender 4 [] ks2 R) (hb hl2.1) e5
        exact ⟨hb5, [], ks2, by rw [e1]; simp, by rw [e2]; simp, .inr ⟨rfl, rfl⟩, hl5⟩
/-- the end is there -/
theorem PartsAt.fin {s : Int} {lv : Nat} {l0 l r : List UInt8} {c b : Bool} {ns : List ByteArray} {ks : List Tree} (h : PartsAt s lv l0 c b ns ks l) (hr : b = false → l = endOf s :: r) :
    ∀ ns0 ks0 R, Fits s ns0 ks0 → Tree.goodS ks0 (lv + 1) → l0 = trS s true ns0 ks0 ++ endOf s :: R → ns0 = ns ∧ ks0 = ks ∧ b = false ∧ r = R := by
  intro ns0 ks0 R hn hg e
  obtain ⟨rfl, ns1, ks1, e1, e2, e3, e4⟩ := h ns0 ks0 R hn hg e
  have hr := hr rfl
  match ks1, e2, e3, e4 with
  | [], e2, e3, e4 =>
    have hns : ns1 = [] := by
      rcases e3 with ⟨_, hl, _⟩ | ⟨_, h⟩
      · exact List.eq_nil_of_length_eq_zero hl
      · exact h
    subst hns
    rw [hr] at e4
    simp only [trS, List.nil_append] at e4
    injection e4 with _ e4
    exact ⟨by rw [e1, List.append_nil], by rw [e2, List.append_nil], rfl, e4⟩
  | k0 :: ks2, e2, e3, e4 =>
    exfalso
    have hgk : k0.good (lv + 1) := Tree.goodS_mem _ _ hg k0 (by rw [e2]; simp)
    rw [hr] at e4
    have hend : endOf s = 125 ∨ endOf s = 93 := by unfold endOf; split <;> simp
    cases c with
    | false =>
      simp only [trS, Bool.false_eq_true, if_false, List.cons_append, List.nil_append] at e4
      injection e4 with e4 _
      rw [e4] at hend
      revert hend
      decide
    | true =>
      rcases e3 with ⟨rfl, hl, hno⟩ | ⟨rfl, rfl⟩
      · match ns1, hl, hno with
        | n :: ns2, hl, hno =>
          obtain ⟨d, t, hd, hc⟩ := nameOk_head (hno n (by simp))
          simp only [trS, if_true, List.nil_append, List.headD_cons] at e4
          rw [hd] at e4
          simp only [List.cons_append] at e4
          injection e4 with e4 _
          rw [← e4] at hc
          exact absurd hc (by decide)
      · obtain ⟨d, t, hd, h1, h2, h3⟩ := Tree.wr_head hgk
        simp only [trS, if_true, List.nil_append] at e4
        rw [hd, if_neg (by decide)] at e4
        simp only [List.cons_append, List.nil_append] at e4
        injection e4 with e4 _
        rcases hend with h | h
        · exact h3 (e4.symm.trans h)
        · exact h2 (e4.symm.trans h)
end Go.Proofs.YtnaecdoeldoipaaGreatDoor
set_option linter.unusedVariables false
set_option linter.unusedSimpArgs false
namespace Go.Proofs.YtnaecdoeldoipaaGreatDoor
open Go.ChangeShapes Go.WideShapes Go.ChangeAt Go.RowKit

section
variable {lv : Nat} {l l1 l2 l' : List UInt8} {ok ok2 bad bad' b : Bool} {k : Tree}
def TextTaken (l : List UInt8) (bad : Bool) (x : ByteArray) (l' : List UInt8) (bad' : Bool) : Prop :=
  ∀ (y : ByteArray) (R : List UInt8), (∀ c ∈ bl y, c ≠ 34) → bad = false → l = 34 :: (bl y ++ 34 :: R) → x = y ∧ bad' = false ∧ l' = R
def NumTaken (l : List UInt8) (bad : Bool) (n : Int) (l' : List UInt8) (bad' : Bool) : Prop :=
  ∀ (z : Int) (R : List UInt8), -999999999 ≤ z ∧ z ≤ 999999999 → Ender R → bad = false → l = bl (dec z) ++ R → n = z ∧ bad' = false ∧ l' = R
theorem num_head {n : Int} {R : List UInt8} {c : UInt8} (hc : ∀ a r, l = a :: r → a = c) (e : l = bl (dec n) ++ R) (h : c ≠ 45 ∧ ¬ (48 ≤ c.toNat ∧ c.toNat ≤ 57)) : False := by
  obtain ⟨d, r, hd, hdd⟩ := dec_head n
  rw [hd] at e
  have := hc d (r ++ R) e
  subst this
  rcases hdd with hdd | hdd
  · exact h.1 hdd
  · exact h.2 hdd
theorem TakesT.text {x : ByteArray} (ht : TextTaken l bad x l' bad') (hc : ∀ a r, l = a :: r → a = 34) : TakesT lv l bad (.mk 2 0 x [] []) l' bad' := by
  intro k0 R hg hR hb e
  rcases Tree.read_cases hg l R e with ⟨n, _, _, e⟩ | ⟨y, rfl, _, hy, e⟩ | ⟨_, e⟩ | ⟨_, e⟩ | ⟨ks, _, _, e⟩ | ⟨ns, ks, _, _, _, e⟩ | ⟨_, e⟩ | ⟨y, _, _, e⟩
  · exact (num_head hc e (by decide)).elim
  · obtain ⟨rfl, h1, h2⟩ := ht y R hy hb e
    exact ⟨rfl, h1, h2⟩
  all_goals exact absurd (hc _ _ e) (by decide)
theorem TakesT.yes (he : Eaten [121, 101, 115] l ok l') (hc : ∀ a r, l = a :: r → a = 121) : TakesT lv l false (.mk 3 1 .empty [] []) l' (!ok) := by
  intro k0 R hg hR hb e
  rcases Tree.read_cases hg l R e with ⟨n, _, _, e⟩ | ⟨y, _, _, _, e⟩ | ⟨rfl, e⟩ | ⟨_, e⟩ | ⟨ks, _, _, e⟩ | ⟨ns, ks, _, _, _, e⟩ | ⟨_, e⟩ | ⟨y, _, _, e⟩
  · exact (num_head hc e (by decide)).elim
  · exact absurd (hc _ _ e) (by decide)
  · obtain ⟨rfl, h⟩ := he.yes (r := R) e
    exact ⟨rfl, rfl, h⟩
  all_goals exact absurd (hc _ _ e) (by decide)
theorem TakesT.no (he : Eaten [110, 111] l ok l') (hc : ∀ a r, l = a :: r → a = 110) : TakesT lv l false (.mk 3 0 .empty [] []) l' (!ok) := by
  intro k0 R hg hR hb e
  rcases Tree.read_cases hg l R e with ⟨n, _, _, e⟩ | ⟨y, _, _, _, e⟩ | ⟨_, e⟩ | ⟨rfl, e⟩ | ⟨ks, _, _, e⟩ | ⟨ns, ks, _, _, _, e⟩ | ⟨_, e⟩ | ⟨y, _, _, e⟩
  · exact (num_head hc e (by decide)).elim
  · exact absurd (hc _ _ e) (by decide)
  · exact absurd (hc _ _ e) (by decide)
  · obtain ⟨rfl, h⟩ := he.yes (r := R) e
    exact ⟨rfl, rfl, h⟩
  all_goals exact absurd (hc _ _ e) (by decide)
theorem TakesT.tilde (he : Eaten [126] l ok l') (hc : ∀ a r, l = a :: r → a = 126) : TakesT lv l false (.mk 6 0 .empty [] []) l' (!ok) := by
  intro k0 R hg hR hb e
  rcases Tree.read_cases hg l R e with ⟨n, _, _, e⟩ | ⟨y, _, _, _, e⟩ | ⟨_, e⟩ | ⟨_, e⟩ | ⟨ks, _, _, e⟩ | ⟨ns, ks, _, _, _, e⟩ | ⟨rfl, e⟩ | ⟨y, _, _, e⟩
  · exact (num_head hc e (by decide)).elim
  iterate 5 exact absurd (hc _ _ e) (by decide)
  · obtain ⟨rfl, h⟩ := he.yes (r := R) e
    exact ⟨rfl, rfl, h⟩
  · exact absurd (hc _ _ e) (by decide)
theorem TakesT.maybe (he : Eaten [63] l ok l1) (hc : ∀ a r, l = a :: r → a = 63) (hk : TakesT (lv + 1) l1 (!ok) k l' b) : TakesT lv l false (.mk 6 0 .empty [] [k]) l' b := by
  intro k0 R hg hR hb e
  rcases Tree.read_cases hg l R e with ⟨n, _, _, e⟩ | ⟨y, _, _, _, e⟩ | ⟨_, e⟩ | ⟨_, e⟩ | ⟨ks, _, _, e⟩ | ⟨ns, ks, _, _, _, e⟩ | ⟨_, e⟩ | ⟨y, rfl, hgy, e⟩
  · exact (num_head hc e (by decide)).elim
  iterate 6 exact absurd (hc _ _ e) (by decide)
  · obtain ⟨rfl, h⟩ := he.yes (r := bl y.wr ++ R) e
    obtain ⟨rfl, h1, h2⟩ := hk y R hgy hR rfl h
    exact ⟨rfl, h1, h2⟩
theorem TakesT.list {c : Bool} {ns : List ByteArray} {ks : List Tree} {lx : List UInt8} (h : PartsAt 4 lv l1 c b ns ks lx) (hl : l = 91 :: l1) (hr : b = false → lx = 93 :: l') : TakesT lv l false (.mk 4 0 .empty ns ks) l' b := by
  intro k0 R hg hR hb e
  rcases Tree.read_cases hg l R e with ⟨n, _, _, e⟩ | ⟨y, _, _, _, e⟩ | ⟨_, e⟩ | ⟨_, e⟩ | ⟨ks0, rfl, hgk, e⟩ | ⟨ns0, ks0, _, _, _, e⟩ | ⟨_, e⟩ | ⟨y, _, _, e⟩
  · exact (num_head (c := 91) (fun a r h => by rw [hl] at h; injection h with h; exact h.symm) e (by decide)).elim
  iterate 3 (rw [hl] at e; injection e with e _; exact absurd e (by decide))
  · rw [hl] at e
    injection e with _ e
    obtain ⟨e1, e2, e3, e4⟩ := h.fin hr [] ks0 R (.inr ⟨rfl, rfl⟩) hgk e
    subst e1 e2
    exact ⟨rfl, e3, e4⟩
  all_goals (rw [hl] at e; injection e with e _; exact absurd e (by decide))
theorem TakesT.form {c : Bool} {ns : List ByteArray} {ks : List Tree} {lx : List UInt8} (h : PartsAt 5 lv l1 c b ns ks lx) (hl : l = 123 :: l1) (hr : b = false → lx = 125 :: l') : TakesT lv l false (.mk 5 0 .empty ns ks) l' b := by
  intro k0 R hg hR hb e
  rcases Tree.read_cases hg l R e with ⟨n, _, _, e⟩ | ⟨y, _, _, _, e⟩ | ⟨_, e⟩ | ⟨_, e⟩ | ⟨ks0, _, hgk, e⟩ | ⟨ns0, ks0, rfl, hf, hgk, e⟩ | ⟨_, e⟩ | ⟨y, _, _, e⟩
  · exact (num_head (c := 123) (fun a r h => by rw [hl] at h; injection h with h; exact h.symm) e (by decide)).elim
  iterate 4 (rw [hl] at e; injection e with e _; exact absurd e (by decide))
  · rw [hl] at e
    injection e with _ e
    obtain ⟨e1, e2, e3, e4⟩ := h.fin hr ns0 ks0 R hf hgk e
    subst e1 e2
    exact ⟨rfl, e3, e4⟩
  all_goals (rw [hl] at e; injection e with e _; exact absurd e (by decide))
theorem TakesT.num {n : Int} (ht : NumTaken l bad n l' bad') (hc : ∀ a r, l = a :: r → a ≠ 34 ∧ a ≠ 121 ∧ a ≠ 110 ∧ a ≠ 126 ∧ a ≠ 63 ∧ a ≠ 91 ∧ a ≠ 123) : TakesT lv l bad (.mk 1 n .empty [] []) l' bad' := by
  intro k0 R hg hR hb e
  rcases Tree.read_cases hg l R e with ⟨z, rfl, hz, e⟩ | ⟨y, _, _, _, e⟩ | ⟨_, e⟩ | ⟨_, e⟩ | ⟨ks, _, _, e⟩ | ⟨ns, ks, _, _, _, e⟩ | ⟨_, e⟩ | ⟨y, _, _, e⟩
  · obtain ⟨rfl, h1, h2⟩ := ht z R hz hR hb e
    exact ⟨rfl, h1, h2⟩
  all_goals exact absurd (hc _ _ e) (by decide)
/-! how much is paid -/
theorem Paid.leaf {u : List UInt8} (hu : 1 ≤ u.length) (he : Eaten u l ok l') (n : Nat) (hn : n = 0) : Paid lv l n l' (!ok) := by
  subst hn
  refine ⟨he.le, by omega, fun h => ?_⟩
  cases ok
  · cases h
  · have := he.lt
    omega
theorem Paid.more {n : Nat} {u : List UInt8} (hu : 1 ≤ u.length) (he : Eaten u l ok l1) (h : Paid (lv + 1) l1 n l' b) (hb : b = false → ok = true) (hlv : lv ≤ 6) : Paid lv l (1 + n) l' b := by
  obtain ⟨h1, h2, h3⟩ := h
  have hle := he.le
  refine ⟨by omega, by omega, fun hf => ?_⟩
  have := h3 hf
  obtain rfl := hb hf
  have := he.lt
  omega
def PaidF (lv : Nat) (l1 : List UInt8) (n : Nat) (lx : List UInt8) (bx : Bool) : Prop := lx.length ≤ l1.length ∧ n ≤ 4 * (l1.length - lx.length) + 4 * (8 - lv) ∧ (bx = false → n ≤ 4 * (l1.length - lx.length))
theorem PaidF.start (lv : Nat) (l1 : List UInt8) (bx : Bool) : PaidF lv l1 0 l1 bx := ⟨Nat.le_refl _, by omega, fun _ => by omega⟩
/-- a part more: so much was read for its name (m) and so much came of its tree (nk) -/
theorem PaidF.step {n nk m : Nat} {lx l4 l5 : List UInt8} {b5 : Bool} (h : PaidF lv l1 n lx false) (hm : l4.length ≤ lx.length ∧ m ≤ 4 * (lx.length - l4.length) + 1) (h5 : Paid (lv + 1) l4 nk l5 b5) (hb : b5 = false → m ≤ 4 * (lx.length - l4.length)) (hlv : lv ≤ 6) :
    PaidF lv l1 (n + m + 1 + nk) l5 b5 := by
  obtain ⟨a1, a2, a3⟩ := h
  obtain ⟨c1, c2, c3⟩ := h5
  have a4 := a3 rfl
  refine ⟨by omega, by omega, fun hf => ?_⟩
  have c4 := c3 hf
  have := hb hf
  omega
theorem PaidF.done {n : Nat} {lx : List UInt8} {c : UInt8} (hl1 : l = c :: l1) (h : PaidF lv l1 n lx b) (hl : l'.length ≤ lx.length) (hb : b = false → l'.length < lx.length) : Paid lv l n l' b := by
  obtain ⟨a1, a2, a3⟩ := h
  have e := congrArg List.length hl1
  rw [List.length_cons] at e
  refine ⟨by omega, by omega, fun hf => ?_⟩
  have a4 := a3 hf
  have := hb hf
  omega
end
theorem Tree.bulk_mk (s n : Int) (x : ByteArray) (ns : List ByteArray) (ks : List Tree) : (Tree.mk s n x ns ks).bulk = x.size + bulkStrs ns + ks.length + Tree.bulkS ks := Tree.bulk_eq _
theorem Tree.bulk_leaf (s n : Int) : (Tree.mk s n .empty [] []).bulk = 0 := rfl
theorem Tree.bulk_text (x : ByteArray) : (Tree.mk 2 0 x [] []).bulk = x.size := rfl
theorem Tree.bulk_one (s n : Int) (k : Tree) : (Tree.mk s n .empty [] [k]).bulk = 1 + k.bulk := by
  rw [Tree.bulk_mk]
  simp only [Tree.bulkS, List.length_cons, List.length_nil]
  have e1 : bulkStrs [] = 0 := rfl
  have e2 : (ByteArray.empty).size = 0 := rfl
  omega
theorem bulkStrs_snoc (ns : List ByteArray) (x : ByteArray) : bulkStrs (ns ++ [x]) = bulkStrs ns + (1 + x.size) := by
  unfold bulkStrs
  rw [bulkStr_append, List.length_append]
  simp [bulkStr]
  omega
theorem tbulkS_snoc (ks : List Tree) (k : Tree) : Tree.bulkS (ks ++ [k]) = Tree.bulkS ks + k.bulk := by
  rw [Tree.bulkS_append]
  simp [Tree.bulkS]
/-! a number's digits -/
theorem numK_digits' : ∀ (ds : List UInt8) (k : Nat) (acc : Int) (R : List UInt8), (∀ d ∈ ds, 48 ≤ d.toNat ∧ d.toNat ≤ 57) → ds.length ≤ k → (∀ c r, R = c :: r → ¬ (48 ≤ c.toNat ∧ c.toNat ≤ 57)) → numK k acc (ds ++ R) = (valD acc ds, ds.length)
  | [], 0, acc, R, _, _, _ => rfl
  | [], k + 1, acc, [], _, _, _ => rfl
  | [], k + 1, acc, c :: r, _, _, h => by
    simp only [List.nil_append, numK, if_neg (h c r rfl)]
    rfl
  | d :: ds, 0, acc, R, _, h, _ => by simp at h
  | d :: ds, k + 1, acc, R, hd, hl, hb => by
    have ih := numK_digits' ds k (acc * 10 + ((d.toNat : Int) - 48)) R (fun x hx => hd x (by simp [hx])) (by simpa using hl) hb
    simp only [List.cons_append, numK]
    rw [if_pos (hd d (by simp)), ih]
    rfl
/-- what a number reads as: a sign, at most ten digits -/
def numOf10 (l : List UInt8) : Int × Nat := if l.headD 0 = 45 then (-(numK 10 0 (l.drop 1)).1, 1 + (numK 10 0 (l.drop 1)).2) else numK 10 0 l
theorem ender_digit {R : List UInt8} (h : Ender R) : ∀ c r, R = c :: r → ¬ (48 ≤ c.toNat ∧ c.toNat ≤ 57) := fun c r e => by
  rcases h c r e with rfl | rfl | rfl <;> decide
theorem decDigits_nine (u : Nat) (h : u ≤ 999999999) : (Lib.decDigits u).length ≤ 10 := Nat.le_trans (decDigits_len 8 u (by omega)) (by decide)
end Go.Proofs.YtnaecdoeldoipaaGreatDoor
