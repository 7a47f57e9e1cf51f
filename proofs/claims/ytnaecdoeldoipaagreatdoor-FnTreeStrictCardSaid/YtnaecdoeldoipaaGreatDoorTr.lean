/-
  Reading trees from texts: the plain law. A reader that takes the text of each tree that is good.
-/
import Derived.Test.YtnaecdoeldoipaaGreatDoorTb
import Derived.Test.YtnaecdoeldoipaaGreatDoorTreeText
import Derived.Test.YtnaecdoeldoipaaGreatDoorPlR2
set_option linter.unusedVariables false
set_option linter.unusedSimpArgs false
namespace Go.Proofs.YtnaecdoeldoipaaGreatDoor
open Go.ChangeShapes Go.WideShapes Go.ChangeAt Go.RowKit

/-- what may stand behind a tree's text -/
def Ender (R : List UInt8) : Prop := ∀ c r, R = c :: r → c = 44 ∨ c = 93 ∨ c = 125
theorem Ender.nil : Ender [] := fun c r h => by cases h
theorem Ender.cons {c : UInt8} {r : List UInt8} (h : c = 44 ∨ c = 93 ∨ c = 125) : Ender (c :: r) := fun d q e => by
  injection e with e _
  rw [← e]
  exact h
/-- the kids' text; c: no comma stands ahead -/
def trS (s : Int) : Bool → List ByteArray → List Tree → List UInt8
  | _, _, [] => []
  | c, ns, k :: ks => (if c = true then [] else [44]) ++ ((if s = 5 then bl (ns.headD .empty) ++ [58] else []) ++ (bl k.wr ++ trS s false ns.tail ks))
theorem trS_eq (s : Int) : ∀ (ks : List Tree) (ns : List ByteArray) (i : Nat), bl (Tree.wrS s ns i ks) = trS s (i == 0) (ns.drop i) ks
  | [], ns, i => by simp [Tree.wrS, trS, bl_nil]
  | k :: ks, ns, i => by
    have e1 : (ns.drop i).headD .empty = ns[i]?.getD .empty := by
      rw [List.headD_eq_head?_getD, List.head?_drop]
    have e2 : (ns.drop i).tail = ns.drop (i + 1) := by rw [List.tail_drop]
    have e3 : (i + 1 == 0) = false := by simp
    rw [Tree.wrS, bl_app, bl_app, trS_eq s ks ns (i + 1), trS, e1, e2, e3]
    unfold kidHead
    rw [bl_app]
    by_cases hi : i = 0 <;> by_cases hs : s = 5 <;> simp [hi, hs, bl, bl_app, ByteArray.data_append]
/-- names and kids that fit -/
def Fits (s : Int) (ns : List ByteArray) (ks : List Tree) : Prop := (s = 5 ∧ ns.length = ks.length ∧ ∀ n ∈ ns, NameOk n) ∨ (s = 4 ∧ ns = [])
theorem empty_of {x : ByteArray} (h : x.toList = []) : x = .empty := bl_inj (by rw [Lib.toList_data] at h; exact h)
theorem text_no34 {x : ByteArray} (h : TextOk x) : ∀ y ∈ bl x, y ≠ 34 := by
  intro y hy
  obtain ⟨i, hi, rfl⟩ := List.getElem_of_mem hy
  rw [bl_len] at hi
  rw [bl_get x i hi]
  have := h.2 i hi
  unfold TextAt at this
  intro e
  rw [e] at this
  exact absurd this (by decide)
theorem Tree.read_cases {k : Tree} {lv : Nat} (h : k.good lv) (l R : List UInt8) (hl : l = bl k.wr ++ R) :
    (∃ n, k = .mk 1 n .empty [] [] ∧ (-999999999 ≤ n ∧ n ≤ 999999999) ∧ l = bl (dec n) ++ R) ∨ (∃ x, k = .mk 2 0 x [] [] ∧ x.size ≤ 60 ∧ (∀ y ∈ bl x, y ≠ 34) ∧ l = 34 :: (bl x ++ 34 :: R)) ∨
    (k = .mk 3 1 .empty [] [] ∧ l = 121 :: 101 :: 115 :: R) ∨ (k = .mk 3 0 .empty [] [] ∧ l = 110 :: 111 :: R) ∨
    (∃ ks, k = .mk 4 0 .empty [] ks ∧ Tree.goodS ks (lv + 1) ∧ l = 91 :: (trS 4 true [] ks ++ 93 :: R)) ∨
    (∃ ns ks, k = .mk 5 0 .empty ns ks ∧ Fits 5 ns ks ∧ Tree.goodS ks (lv + 1) ∧ l = 123 :: (trS 5 true ns ks ++ 125 :: R)) ∨
    (k = .mk 6 0 .empty [] [] ∧ l = 126 :: R) ∨ (∃ x, k = .mk 6 0 .empty [] [x] ∧ x.good (lv + 1) ∧ l = 63 :: (bl x.wr ++ R)) := by
  have hg := (Tree.good_iff _ _).1 h
  match k, hg, hl with
  | .mk s n x ns ks, hg, hl =>
    have hs := hg.2.1
    unfold Tree.shape at hs
    simp only [Tree.sort, Tree.num, Tree.text, Tree.names, Tree.kids] at hs hg
    subst hl
    rcases hs with ⟨rfl, h1, h2, h3, h4⟩ | ⟨rfl, rfl, h2, h3, h4⟩ | ⟨rfl, h1, h2, h3, h4⟩ | ⟨rfl, rfl, h2, h3, h4⟩ | ⟨rfl, rfl, h2, h3, h4⟩ | ⟨rfl, rfl, h2, h3, h4⟩
    · have e3 := List.eq_nil_of_length_eq_zero h3
      have e4 := List.eq_nil_of_length_eq_zero h4
      subst e3 e4
      rw [empty_of h2]
      exact .inl ⟨n, rfl, h1, by rw [Tree.wr, if_pos rfl]⟩
    · have e3 := List.eq_nil_of_length_eq_zero h3
      have e4 := List.eq_nil_of_length_eq_zero h4
      subst e3 e4
      exact .inr (.inl ⟨x, rfl, h2.1, text_no34 h2, by rw [Tree.wr, if_neg (by decide), if_pos rfl, bl_app, bl_app]; simp [bl]⟩)
    · have e3 := List.eq_nil_of_length_eq_zero h3
      have e4 := List.eq_nil_of_length_eq_zero h4
      subst e3 e4
      rw [empty_of h2]
      obtain rfl | rfl : n = 1 ∨ n = 0 := by omega
      · exact .inr (.inr (.inl ⟨rfl, by rw [Tree.wr, if_neg (by decide), if_neg (by decide), if_pos rfl, if_pos rfl]; rfl⟩))
      · exact .inr (.inr (.inr (.inl ⟨rfl, by rw [Tree.wr, if_neg (by decide), if_neg (by decide), if_pos rfl, if_neg (by decide)]; rfl⟩)))
    · have e3 := List.eq_nil_of_length_eq_zero h3
      subst e3
      rw [empty_of h2]
      refine .inr (.inr (.inr (.inr (.inl ⟨ks, rfl, hg.2.2, ?_⟩))))
      rw [Tree.wr, if_neg (by decide), if_neg (by decide), if_neg (by decide), if_pos rfl, bl_app, bl_app, trS_eq]
      simp [bl]
    · rw [empty_of h2]
      refine .inr (.inr (.inr (.inr (.inr (.inl ⟨ns, ks, rfl, .inl ⟨rfl, h4, fun y hy => by obtain ⟨i, hi, rfl⟩ := List.getElem_of_mem hy; exact (h3 i hi).1⟩, hg.2.2, ?_⟩)))))
      rw [Tree.wr, if_neg (by decide), if_neg (by decide), if_neg (by decide), if_neg (by decide), if_pos rfl, bl_app, bl_app, trS_eq]
      simp [bl]
    · have e3 := List.eq_nil_of_length_eq_zero h3
      subst e3
      rw [empty_of h2]
      match ks, h4, hg.2.2 with
      | [], _, _ => exact .inr (.inr (.inr (.inr (.inr (.inr (.inl ⟨rfl, by rw [Tree.wr, if_neg (by decide), if_neg (by decide), if_neg (by decide), if_neg (by decide), if_neg (by decide), Tree.wrM]; rfl⟩))))))
      | [x], _, hgx =>
        simp only [Tree.goodS] at hgx
        refine .inr (.inr (.inr (.inr (.inr (.inr (.inr ⟨x, rfl, hgx.1, ?_⟩))))))
        rw [Tree.wr, if_neg (by decide), if_neg (by decide), if_neg (by decide), if_neg (by decide), if_neg (by decide), Tree.wrM, bl_app]
        simp [bl]
theorem dec_head (z : Int) : ∃ c r, bl (dec z) = c :: r ∧ (c = 45 ∨ (48 ≤ c.toNat ∧ c.toNat ≤ 57)) := by
  have hne : bl (dec z) ≠ [] := by
    unfold bl
    rw [dec_bytes]
    unfold Lib.itoa
    split
    · simp
    · rw [Lib.decDigits]
      split <;> simp
  match hb : bl (dec z), hne with
  | c :: r, _ =>
    refine ⟨c, r, rfl, ?_⟩
    rcases dec_mem z c (show c ∈ bl (dec z) by rw [hb]; simp) with h | h
    · exact .inl (UInt8.toNat_inj.1 h)
    · exact .inr h
theorem Tree.wr_head {k : Tree} {lv : Nat} (h : k.good lv) : ∃ c r, bl k.wr = c :: r ∧ c ≠ 44 ∧ c ≠ 93 ∧ c ≠ 125 := by
  rcases Tree.read_cases h _ [] (List.append_nil _).symm with ⟨n, _, _, e⟩ | ⟨x, _, _, _, e⟩ | ⟨_, e⟩ | ⟨_, e⟩ | ⟨ks, _, _, e⟩ | ⟨ns, ks, _, _, _, e⟩ | ⟨_, e⟩ | ⟨x, _, _, e⟩
  · obtain ⟨c, r, e2, hc⟩ := dec_head n
    rw [e2, List.append_nil] at e
    refine ⟨c, r, e, ?_, ?_, ?_⟩ <;> (rintro rfl; revert hc; decide)
  all_goals exact ⟨_, _, e, by decide, by decide, by decide⟩
/-- what a reader of trees does at a level -/
def TakesT (lv : Nat) (l : List UInt8) (bad : Bool) (k : Tree) (l' : List UInt8) (bad' : Bool) : Prop :=
  ∀ (k0 : Tree) (R : List UInt8), k0.good lv → Ender R → bad = false → l = bl k0.wr ++ R → k = k0 ∧ bad' = false ∧ l' = R
/-- how much was read for how much came of it -/
def Paid (lv : Nat) (l : List UInt8) (n : Nat) (l' : List UInt8) (bad' : Bool) : Prop :=
  l'.length ≤ l.length ∧ n ≤ 4 * (l.length - l'.length) + 4 * (8 - lv) ∧ (bad' = false → l'.length < l.length ∧ n + 1 ≤ 4 * (l.length - l'.length))
theorem TakesT.bad {lv : Nat} {l l' : List UInt8} {k : Tree} {b : Bool} : TakesT lv l true k l' b := fun k0 R _ _ h _ => by cases h
theorem TakesT.deep {lv : Nat} {l l' : List UInt8} {k : Tree} {b b' : Bool} (h : 6 < lv) : TakesT lv l b k l' b' := fun k0 R hg _ _ _ => by
  have := ((Tree.good_iff _ _).1 hg).1
  omega
theorem Paid.none (lv : Nat) (l : List UInt8) : Paid lv l 0 l true := ⟨Nat.le_refl _, by omega, fun h => by cases h⟩
/-! ### the parts of a list or form -/
def endOf (s : Int) : UInt8 := if s = 5 then 125 else 93
def PartsAt (s : Int) (lv : Nat) (l0 : List UInt8) (c b : Bool) (ns : List ByteArray) (ks : List Tree) (l : List UInt8) : Prop :=
  ∀ (ns0 : List ByteArray) (ks0 : List Tree) (R : List UInt8), Fits s ns0 ks0 → Tree.goodS ks0 (lv + 1) → l0 = trS s true ns0 ks0 ++ endOf s :: R →
    b = false ∧ ∃ ns1 ks1, ns0 = ns ++ ns1 ∧ ks0 = ks ++ ks1 ∧ Fits s ns1 ks1 ∧ l = trS s c ns1 ks1 ++ endOf s :: R
theorem PartsAt.start (s : Int) (lv : Nat) (l0 : List UInt8) : PartsAt s lv l0 true false [] [] l0 := fun ns0 ks0 R hn hg e => ⟨rfl, ns0, ks0, rfl, rfl, hn, e⟩
theorem endOf_ender (s : Int) (r : List UInt8) : Ender (endOf s :: r) := Ender.cons (by unfold endOf; split <;> simp)
theorem trS_ender (s : Int) (ns : List ByteArray) (ks : List Tree) (R : List UInt8) : Ender (trS s false ns ks ++ endOf s :: R) := by
  cases ks with
  | nil => exact endOf_ender s R
  | cons k ks =>
    simp only [trS, Bool.false_eq_true, if_false, List.cons_append, List.nil_append]
    exact Ender.cons (.inl rfl)
/-- what stands ahead of a part's tree -/
def Ahead (s : Int) (nx : List ByteArray) (l2 l4 : List UInt8) (ok1 b4 : Bool) : Prop :=
  (s = 5 ∧ ∃ x l3 ok2, nx = [x] ∧ Named l2 x l3 ∧ Eaten [58] l3 ok2 l4 ∧ (ok1 = true → ok2 = true → b4 = false)) ∨ (s = 4 ∧ nx = [] ∧ l4 = l2 ∧ (ok1 = true → b4 = false))
/-- one part more: a comma, if one is wanted, a name and a colon in a form, a tree -/
theorem PartsAt.step {s : Int} {lv : Nat} {l0 l l2 l4 l5 : List UInt8} {c ok1 b4 b5 : Bool} {ns nx : List ByteArray} {ks : List Tree} {k : Tree} (h : PartsAt s lv l0 c false ns ks l) (hne : ∀ r, l ≠ endOf s :: r)
    (h1 : (c = true ∧ l2 = l ∧ ok1 = true) ∨ (c = false ∧ Eaten [44] l ok1 l2))
    (h2 : Ahead s nx l2 l4 ok1 b4)
    (h4 : TakesT (lv + 1) l4 b4 k l5 b5) : PartsAt s lv l0 false b5 (ns ++ nx) (ks ++ [k]) l5 := by
  intro ns0 ks0 R hn hg e
  obtain ⟨_, ns1, ks1, e1, e2, e3, e4⟩ := h ns0 ks0 R hn hg e
  match ks1, e2, e3, e4 with
  | [], _, _, e4 => exact absurd e4 (hne R)
  | k0 :: ks2, e2, e3, e4 =>
    have hgk : k0.good (lv + 1) := Tree.goodS_mem _ _ hg k0 (by rw [e2]; simp)
    have hl2 : ok1 = true ∧ l2 = ((if s = 5 then bl (ns1.headD .empty) ++ [58] else []) ++ (bl k0.wr ++ trS s false ns1.tail ks2)) ++ endOf s :: R := by
      rcases h1 with ⟨rfl, rfl, ho⟩ | ⟨rfl, ho⟩
      · exact ⟨ho, by rw [e4]; simp [trS]⟩
      · exact ho.yes (by rw [e4]; simp [trS])
    rcases h2 with ⟨rfl, x, l3, ok2, rfl, hnm, he, hb⟩ | ⟨rfl, rfl, rfl, hb⟩
    · rcases e3 with ⟨_, hl, hno⟩ | ⟨h5, _⟩
      · match ns1, hl, hno, e1, hl2 with
        | n :: ns2, hl, hno, e1, hl2 =>
          simp only [if_true, List.headD_cons, List.tail_cons] at hl2
          have hnn : NameOk n := hno n (by simp)
          obtain ⟨rfl, hl3⟩ := hnm.2 n (bl k0.wr ++ (trS 5 false ns2 ks2 ++ endOf 5 :: R)) hnn (by rw [hl2.2]; simp [List.append_assoc])
          obtain ⟨ho2, hl4⟩ := he.yes (r := bl k0.wr ++ (trS 5 false ns2 ks2 ++ endOf 5 :: R)) (by rw [hl3]; simp)
          obtain ⟨rfl, hb5, hl5⟩ := h4 k0 _ hgk (trS_ender 5 ns2 ks2 R) (hb hl2.1 ho2) hl4
          exact ⟨hb5, ns2, ks2, by rw [e1]; simp, by rw [e2]; simp, .inl ⟨rfl, by simpa using hl, fun m hm => hno m (by simp [hm])⟩, hl5⟩
      · exact absurd h5 (by decide)
    · rcases e3 with ⟨h5, _⟩ | ⟨_, rfl⟩
      · exact absurd h5 (by decide)
      · have e5 : l4 = bl k0.wr ++ (trS 4 false [] ks2 ++ endOf 4 :: R) := by
          rw [hl2.2, if_neg (by decide)]
          simp
        obtain ⟨rfl, hb5, hl5⟩ := h4 k0 _ hgk (trS_ender 4 [] ks2 R) (hb hl2.1) e5
        exact ⟨hb5, [], ks2, by rw [e1]; simp, by rw [e2]; simp, .inr ⟨rfl, rfl⟩, hl5⟩
/-- the end is there -/
theorem PartsAt.fin {s : Int} {lv : Nat} {l0 l r : List UInt8} {c b : Bool} {ns : List ByteArray} {ks : List Tree} (h : PartsAt s lv l0 c b ns ks l) (hr : b = false → l = endOf s :: r) :
    ∀ ns0 ks0 R, Fits s ns0 ks0 → Tree.goodS ks0 (lv + 1) → l0 = trS s true ns0 ks0 ++ endOf s :: R → ns0 = ns ∧ ks0 = ks ∧ b = false ∧ r = R := by
  intro ns0 ks0 R hn hg e
  obtain ⟨rfl, ns1, ks1, e1, e2, e3, e4⟩ := h ns0 ks0 R hn hg e
  have hr := hr rfl
  match ks1, e2, e3, e4 with
  | [], e2, e3, e4 =>
    have hns : ns1 = [] := by
      rcases e3 with ⟨_, hl, _⟩ | ⟨_, h⟩
      · exact List.eq_nil_of_length_eq_zero hl
      · exact h
    subst hns
    rw [hr] at e4
    simp only [trS, List.nil_append] at e4
    injection e4 with _ e4
    exact ⟨by rw [e1, List.append_nil], by rw [e2, List.append_nil], rfl, e4⟩
  | k0 :: ks2, e2, e3, e4 =>
    exfalso
    have hgk : k0.good (lv + 1) := Tree.goodS_mem _ _ hg k0 (by rw [e2]; simp)
    rw [hr] at e4
    have hend : endOf s = 125 ∨ endOf s = 93 := by unfold endOf; split <;> simp
    cases c with
    | false =>
      simp only [trS, Bool.false_eq_true, if_false, List.cons_append, List.nil_append] at e4
      injection e4 with e4 _
      rw [e4] at hend
      revert hend
      decide
    | true =>
      rcases e3 with ⟨rfl, hl, hno⟩ | ⟨rfl, rfl⟩
      · match ns1, hl, hno with
        | n :: ns2, hl, hno =>
          obtain ⟨d, t, hd, hc⟩ := nameOk_head (hno n (by simp))
          simp only [trS, if_true, List.nil_append, List.headD_cons] at e4
          rw [hd] at e4
          simp only [List.cons_append] at e4
          injection e4 with e4 _
          rw [← e4] at hc
          exact absurd hc (by decide)
      · obtain ⟨d, t, hd, h1, h2, h3⟩ := Tree.wr_head hgk
        simp only [trS, if_true, List.nil_append] at e4
        rw [hd, if_neg (by decide)] at e4
        simp only [List.cons_append, List.nil_append] at e4
        injection e4 with e4 _
        rcases hend with h | h
        · exact h3 (e4.symm.trans h)
        · exact h2 (e4.symm.trans h)
end Go.Proofs.YtnaecdoeldoipaaGreatDoor
