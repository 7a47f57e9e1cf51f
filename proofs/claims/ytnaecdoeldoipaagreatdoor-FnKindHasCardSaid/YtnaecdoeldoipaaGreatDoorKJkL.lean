/-
  Reading schemas from texts: the plain law. A reader that takes the text of each schema that is good. Reading schemas from texts: each way through a reader, plain laws.
-/
import Derived.Test.YtnaecdoeldoipaaGreatDoorKRead
import Derived.Test.YtnaecdoeldoipaaGreatDoorKKid
import Derived.Test.YtnaecdoeldoipaaGreatDoorKTrL
import Derived.Test.YtnaecdoeldoipaaGreatDoorKDrawK0
import Derived.Test.YtnaecdoeldoipaaGreatDoorKKindText
set_option linter.unusedVariables false
set_option linter.unusedSimpArgs false
namespace Go.Proofs.YtnaecdoeldoipaaGreatDoor
open Go.ChangeShapes Go.WideShapes Go.ChangeAt Go.RowKit

/-- a schema that is good, by its first byte -/
theorem Kind.read_cases {k : Kind} {lv : Nat} (h : k.good lv) (l R : List UInt8) (hl : l = bl k.text ++ R) :
    (k = .mk 1 [] [] ∧ l = 110 :: 117 :: 109 :: R) ∨ (k = .mk 2 [] [] ∧ l = 116 :: 101 :: 120 :: 116 :: R) ∨ (k = .mk 3 [] [] ∧ l = 102 :: 108 :: 97 :: 103 :: R) ∨
    (∃ x, k = .mk 4 [] [x] ∧ x.good (lv + 1) ∧ l = 91 :: (bl x.text ++ 93 :: R)) ∨ (∃ x, k = .mk 6 [] [x] ∧ x.good (lv + 1) ∧ l = 63 :: (bl x.text ++ R)) ∨
    (∃ ns ks, k = .mk 5 ns ks ∧ NamesOk ns ∧ ns.length = ks.length ∧ Kind.goodS ks (lv + 1) ∧ l = 123 :: (bl (Kind.textS true ns ks) ++ 125 :: R)) := by
  have hg := (Kind.good_iff _ _).1 h
  match k, hg, hl with
  | .mk s ns ks, hg, hl =>
    have hs := (Kind.shape_iff _).1 hg.2.1
    simp only [Kind.sort, Kind.names, Kind.kids] at hs hg
    subst hl
    rcases hs with ⟨h1, h2, h3⟩ | ⟨h1, h2, h3⟩ | ⟨h1, h2, h3⟩
    · have e2 := List.eq_nil_of_length_eq_zero h2
      have e3 := List.eq_nil_of_length_eq_zero h3
      subst e2 e3
      rcases h1 with rfl | rfl | rfl
      · exact .inl ⟨rfl, by rw [Kind.text, if_pos rfl]; rfl⟩
      · exact .inr (.inl ⟨rfl, by rw [Kind.text, if_neg (by decide), if_pos rfl]; rfl⟩)
      · exact .inr (.inr (.inl ⟨rfl, by rw [Kind.text, if_neg (by decide), if_neg (by decide), if_pos rfl]; rfl⟩))
    · have e2 := List.eq_nil_of_length_eq_zero h2
      subst e2
      match ks, h3, hg.2.2 with
      | [x], _, hgx =>
        simp only [Kind.goodS] at hgx
        rcases h1 with rfl | rfl
        · refine .inr (.inr (.inr (.inl ⟨x, rfl, hgx.1, ?_⟩)))
          rw [Kind.text, if_neg (by decide), if_neg (by decide), if_neg (by decide), if_pos rfl, bl_app, bl_app]
          simp [Kind.text1, bl]
        · refine .inr (.inr (.inr (.inr (.inl ⟨x, rfl, hgx.1, ?_⟩))))
          rw [Kind.text, if_neg (by decide), if_neg (by decide), if_neg (by decide), if_neg (by decide), if_pos rfl, bl_app]
          simp [Kind.text1, bl]
    · subst h1
      refine .inr (.inr (.inr (.inr (.inr ⟨ns, ks, rfl, h2, h3, hg.2.2, ?_⟩))))
      rw [Kind.text, if_neg (by decide), if_neg (by decide), if_neg (by decide), if_neg (by decide), if_neg (by decide), bl_app, bl_app]
      simp [bl]

/-- what a reader of schemas does at a level -/
def TakesK (lv : Nat) (l : List UInt8) (bad : Bool) (k : Kind) (l' : List UInt8) (bad' : Bool) : Prop :=
  ∀ (k0 : Kind) (R : List UInt8), k0.good lv → bad = false → l = bl k0.text ++ R → k = k0 ∧ bad' = false ∧ l' = R
theorem TakesK.bad {lv : Nat} {l l' : List UInt8} {k : Kind} {b : Bool} : TakesK lv l true k l' b := fun k0 R _ h _ => by cases h
theorem TakesK.deep {lv : Nat} {l l' : List UInt8} {k : Kind} {b b' : Bool} (h : 6 < lv) : TakesK lv l b k l' b' := fun k0 R hg _ _ => by
  have := ((Kind.good_iff _ _).1 hg).1
  omega
/-! ### a form's parts -/
/-- before a part, or at the end: so many are read; c: no comma is wanted -/
def FormAt (lv : Nat) (l0 : List UInt8) (c b : Bool) (ns : List ByteArray) (ks : List Kind) (l : List UInt8) : Prop :=
  ∀ (ns0 : List ByteArray) (ks0 : List Kind) (R : List UInt8), NamesOk ns0 → ns0.length = ks0.length → Kind.goodS ks0 (lv + 1) → l0 = bl (Kind.textS true ns0 ks0) ++ 125 :: R →
    b = false ∧ ∃ ns1 ks1, ns0 = ns ++ ns1 ∧ ks0 = ks ++ ks1 ∧ ns1.length = ks1.length ∧ l = bl (Kind.textS c ns1 ks1) ++ 125 :: R
theorem FormAt.start (lv : Nat) (l0 : List UInt8) : FormAt lv l0 true false [] [] l0 := fun ns0 ks0 R _ hl _ e => ⟨rfl, ns0, ks0, rfl, rfl, hl, e⟩
theorem names_mem {l : List ByteArray} (h : NamesOk l) {x : ByteArray} (hx : x ∈ l) : NameOk x := by
  obtain ⟨i, hi, rfl⟩ := List.getElem_of_mem hx
  exact (h i hi).1
theorem textS_cons (c : Bool) (n : ByteArray) (k : Kind) (ns : List ByteArray) (ks : List Kind) : bl (Kind.textS c (n :: ns) (k :: ks)) = bl (comma c) ++ (bl n ++ 58 :: (bl k.text ++ bl (Kind.textS false ns ks))) := by
  simp only [Kind.textS, bl_app]
  simp [bl]
/-- one part more: a comma, if one is wanted, a name, a colon, a schema -/
theorem FormAt.step {lv : Nat} {l0 l l2 l3 l4 l5 : List UInt8} {c ok1 ok2 b4 b5 : Bool} {ns : List ByteArray} {ks : List Kind} {x : ByteArray} {k : Kind} (h : FormAt lv l0 c false ns ks l) (hne : ∀ r, l ≠ 125 :: r)
    (h1 : (c = true ∧ l2 = l ∧ ok1 = true) ∨ (c = false ∧ Eaten [44] l ok1 l2)) (h2 : Named l2 x l3) (h3 : Eaten [58] l3 ok2 l4) (hb4 : ok1 = true → ok2 = true → b4 = false) (h4 : TakesK (lv + 1) l4 b4 k l5 b5) : FormAt lv l0 false b5 (ns ++ [x]) (ks ++ [k]) l5 := by
  intro ns0 ks0 R hn hl hg e
  obtain ⟨_, ns1, ks1, e1, e2, e3, e4⟩ := h ns0 ks0 R hn hl hg e
  match ns1, ks1, e3 with
  | [], [], _ => exact absurd e4 (hne R)
  | n :: ns2, k0 :: ks2, e3 =>
    rw [textS_cons] at e4
    have hno : NameOk n := names_mem hn (by rw [e1]; simp)
    have hgk : k0.good (lv + 1) := Kind.goodS_mem _ _ hg k0 (by rw [e2]; simp)
    have hl2 : ok1 = true ∧ l2 = bl n ++ 58 :: (bl k0.text ++ (bl (Kind.textS false ns2 ks2) ++ 125 :: R)) := by
      rcases h1 with ⟨rfl, rfl, ho⟩ | ⟨rfl, ho⟩
      · refine ⟨ho, ?_⟩
        rw [e4]
        simp [comma, bl]
      · refine ho.yes ?_
        rw [e4]
        simp [comma, bl]
    obtain ⟨rfl, hl3⟩ := h2.2 n _ hno hl2.2
    obtain ⟨ho2, hl4⟩ := h3.yes (r := bl k0.text ++ (bl (Kind.textS false ns2 ks2) ++ 125 :: R)) hl3
    obtain ⟨rfl, hb5, hl5⟩ := h4 k0 _ hgk (hb4 hl2.1 ho2) hl4
    exact ⟨hb5, ns2, ks2, by rw [e1]; simp, by rw [e2]; simp, by simpa using e3, hl5⟩
/-- the end is there -/
theorem FormAt.done {lv : Nat} {l0 l r : List UInt8} {c b : Bool} {ns : List ByteArray} {ks : List Kind} (h : FormAt lv l0 c b ns ks l) (hr : b = false → l = 125 :: r) : TakesK lv (123 :: l0) false (.mk 5 ns ks) r b := by
  intro k0 R hg _ e
  rcases Kind.read_cases hg _ R e with ⟨_, e1⟩ | ⟨_, e1⟩ | ⟨_, e1⟩ | ⟨_, _, _, e1⟩ | ⟨_, _, _, e1⟩ | ⟨ns0, ks0, rfl, hn, hl, hgk, e1⟩
  · cases e1
  · cases e1
  · cases e1
  · cases e1
  · cases e1
  · injection e1 with _ e1
    obtain ⟨rfl, ns1, ks1, e2, e3, e4, e5⟩ := h ns0 ks0 R hn hl hgk e1
    have hr := hr rfl
    match ns1, ks1, e4 with
    | [], [], _ =>
      rw [List.append_nil] at e2 e3
      rw [hr] at e5
      simp only [Kind.textS, bl_nil, List.nil_append] at e5
      injection e5 with _ e5
      rw [e2, e3]
      exact ⟨rfl, rfl, e5⟩
    | n :: ns2, k1 :: ks2, _ =>
      rw [textS_cons, hr] at e5
      obtain ⟨d, t, hd, hc⟩ := nameOk_head (names_mem hn (x := n) (by rw [e2]; simp))
      rw [hd] at e5
      cases c
      · have : (125 : UInt8) = 44 := by
          simp only [comma, Bool.false_eq_true, if_false, bl, List.cons_append, List.nil_append] at e5
          injection e5
        exact absurd this (by decide)
      · have : (125 : UInt8) = d := by
          simp only [comma, if_true, bl, List.cons_append, List.nil_append] at e5
          injection e5
        subst this
        exact absurd hc (by decide)
/-- a text is read as one schema only: what a reader that takes schemas must answer -/
noncomputable def readK (s : ByteArray) : Option Kind := @dite _ (∃ k : Kind, k.ok ∧ k.text = s) (Classical.propDecidable _) (fun h => some h.choose) (fun _ => none)
theorem readK_some {s : ByteArray} {k : Kind} (h : readK s = some k) : k.ok ∧ k.text = s := by
  unfold readK at h
  split at h
  · next hx =>
    injection h with h
    rw [← h]
    exact hx.choose_spec
  · cases h
theorem readK_none {s : ByteArray} (h : readK s = none) (k : Kind) (hk : k.ok) : k.text ≠ s := by
  unfold readK at h
  split at h
  · cases h
  · next hx => exact fun e => hx ⟨k, hk, e⟩
theorem readK_yes {s : ByteArray} {k : Kind} {l' : List UInt8} {b : Bool} (ht : TakesK 1 (bl s) false k l' b) (hk : k.ok) (e : k.text = s) : readK s = some k := by
  cases h : readK s with
  | none => exact absurd e (readK_none h k hk)
  | some k2 =>
    obtain ⟨h1, h2⟩ := readK_some h
    obtain ⟨rfl, _⟩ := ht k2 [] h1.1 rfl (by rw [h2, List.append_nil])
    rfl
theorem readK_no {s : ByteArray} {k : Kind} {l' : List UInt8} {b : Bool} (ht : TakesK 1 (bl s) false k l' b) (h : ¬ (b = false ∧ l' = [] ∧ k.ok ∧ k.text = s)) : readK s = none := by
  cases h2 : readK s with
  | none => rfl
  | some k2 =>
    obtain ⟨h3, h4⟩ := readK_some h2
    obtain ⟨rfl, hb, hl⟩ := ht k2 [] h3.1 rfl (by rw [h4, List.append_nil])
    exact absurd ⟨hb, hl, h3, h4⟩ h
end Go.Proofs.YtnaecdoeldoipaaGreatDoor
set_option linter.unusedVariables false
set_option linter.unusedSimpArgs false
namespace Go.Proofs.YtnaecdoeldoipaaGreatDoor
open Go.ChangeShapes Go.WideShapes Go.ChangeAt Go.RowKit

section
variable {lv : Nat} {l l1 l2 l' : List UInt8} {ok ok2 b : Bool} {k : Kind}
theorem TakesK.num (he : Eaten [110, 117, 109] l ok l') (hc : ∀ a r, l = a :: r → a = 110) : TakesK lv l false (.mk 1 [] []) l' (!ok) := by
  intro k0 R hg _ e
  rcases Kind.read_cases hg _ R e with ⟨rfl, e1⟩ | ⟨_, e1⟩ | ⟨_, e1⟩ | ⟨_, _, _, e1⟩ | ⟨_, _, _, e1⟩ | ⟨_, _, _, _, _, _, e1⟩
  · obtain ⟨rfl, rfl⟩ := he.yes (r := R) e1
    exact ⟨rfl, rfl, rfl⟩
  all_goals exact absurd (hc _ _ e1) (by decide)
theorem TakesK.text (he : Eaten [116, 101, 120, 116] l ok l') (hc : ∀ a r, l = a :: r → a = 116) : TakesK lv l false (.mk 2 [] []) l' (!ok) := by
  intro k0 R hg _ e
  rcases Kind.read_cases hg _ R e with ⟨_, e1⟩ | ⟨rfl, e1⟩ | ⟨_, e1⟩ | ⟨_, _, _, e1⟩ | ⟨_, _, _, e1⟩ | ⟨_, _, _, _, _, _, e1⟩
  rotate_left
  · obtain ⟨rfl, rfl⟩ := he.yes (r := R) e1
    exact ⟨rfl, rfl, rfl⟩
  all_goals exact absurd (hc _ _ e1) (by decide)
theorem TakesK.flag (he : Eaten [102, 108, 97, 103] l ok l') (hc : ∀ a r, l = a :: r → a = 102) : TakesK lv l false (.mk 3 [] []) l' (!ok) := by
  intro k0 R hg _ e
  rcases Kind.read_cases hg _ R e with ⟨_, e1⟩ | ⟨_, e1⟩ | ⟨rfl, e1⟩ | ⟨_, _, _, e1⟩ | ⟨_, _, _, e1⟩ | ⟨_, _, _, _, _, _, e1⟩
  rotate_left 2
  · obtain ⟨rfl, rfl⟩ := he.yes (r := R) e1
    exact ⟨rfl, rfl, rfl⟩
  all_goals exact absurd (hc _ _ e1) (by decide)
theorem TakesK.maybe (he : Eaten [63] l ok l1) (hc : ∀ a r, l = a :: r → a = 63) (hk : TakesK (lv + 1) l1 (!ok) k l' b) : TakesK lv l false (.mk 6 [] [k]) l' b := by
  intro k0 R hg _ e
  rcases Kind.read_cases hg _ R e with ⟨_, e1⟩ | ⟨_, e1⟩ | ⟨_, e1⟩ | ⟨_, _, _, e1⟩ | ⟨x, rfl, hx, e1⟩ | ⟨_, _, _, _, _, _, e1⟩
  rotate_left 4
  · obtain ⟨rfl, rfl⟩ := he.yes (r := bl x.text ++ R) e1
    obtain ⟨rfl, h1, h2⟩ := hk x R hx rfl rfl
    exact ⟨rfl, h1, h2⟩
  all_goals exact absurd (hc _ _ e1) (by decide)
theorem TakesK.list (he : Eaten [91] l ok l1) (hc : ∀ a r, l = a :: r → a = 91) (hk : TakesK (lv + 1) l1 (!ok) k l2 b) (h2 : Eaten [93] l2 ok2 l') : TakesK lv l false (.mk 4 [] [k]) l' (b || !ok2) := by
  intro k0 R hg _ e
  rcases Kind.read_cases hg _ R e with ⟨_, e1⟩ | ⟨_, e1⟩ | ⟨_, e1⟩ | ⟨x, rfl, hx, e1⟩ | ⟨_, _, _, e1⟩ | ⟨_, _, _, _, _, _, e1⟩
  rotate_left 3
  · obtain ⟨rfl, rfl⟩ := he.yes (r := bl x.text ++ 93 :: R) e1
    obtain ⟨rfl, rfl, h3⟩ := hk x (93 :: R) hx rfl rfl
    obtain ⟨rfl, rfl⟩ := h2.yes (r := R) h3
    exact ⟨rfl, rfl, rfl⟩
  all_goals exact absurd (hc _ _ e1) (by decide)
/-- a form, of which so much is read -/
def FormL (lv : Nat) (l : List UInt8) (c b : Bool) (ns : List ByteArray) (ks : List Kind) (lx : List UInt8) : Prop := ∀ l0, l = 123 :: l0 → FormAt lv l0 c b ns ks lx
theorem FormL.start (he : Eaten [123] l ok l1) : FormL lv l true (!ok) [] [] l1 := by
  intro l0 e
  obtain ⟨rfl, rfl⟩ := he.yes (r := l0) e
  exact FormAt.start lv _
theorem FormL.done {lx : List UInt8} {c : Bool} {ns : List ByteArray} {ks : List Kind} (h : FormL lv l c b ns ks lx) (hr : b = false → lx = 125 :: l') (hc : ∀ a r, l = a :: r → a ≠ 110 ∧ a ≠ 116 ∧ a ≠ 102 ∧ a ≠ 63 ∧ a ≠ 91) : TakesK lv l false (.mk 5 ns ks) l' b := by
  intro k0 R hg _ e
  have hq := e
  rcases Kind.read_cases hg _ R e with ⟨_, e1⟩ | ⟨_, e1⟩ | ⟨_, e1⟩ | ⟨_, _, _, e1⟩ | ⟨_, _, _, e1⟩ | ⟨_, _, _, _, _, _, e1⟩
  · exact absurd rfl (hc _ _ e1).1
  · exact absurd rfl (hc _ _ e1).2.1
  · exact absurd rfl (hc _ _ e1).2.2.1
  · exact absurd rfl (hc _ _ e1).2.2.2.2
  · exact absurd rfl (hc _ _ e1).2.2.2.1
  · have h0 := e1
    rw [h0] at hq
    exact (h _ h0).done hr k0 R hg rfl hq
theorem FormL.step {lx l2 l3 l4 l5 : List UInt8} {c ok1 ok2 b4 b5 : Bool} {ns : List ByteArray} {ks : List Kind} {x : ByteArray} (h : FormL lv l c false ns ks lx) (hne : ∀ r, lx ≠ 125 :: r)
    (h1 : (c = true ∧ l2 = lx ∧ ok1 = true) ∨ (c = false ∧ Eaten [44] lx ok1 l2)) (h2 : Named l2 x l3) (h3 : Eaten [58] l3 ok2 l4) (hb4 : ok1 = true → ok2 = true → b4 = false) (h4 : TakesK (lv + 1) l4 b4 k l5 b5) : FormL lv l false b5 (ns ++ [x]) (ks ++ [k]) l5 :=
  fun l0 e => (h l0 e).step hne h1 h2 h3 hb4 h4

/-! ### what was paid -/
theorem Paid.shut {n : Nat} {u : List UInt8} (h : Paid lv l n l2 b) (he : Eaten u l2 ok2 l') : Paid lv l n l' (b || !ok2) := by
  obtain ⟨h1, h2, h3⟩ := h
  have hle := he.le
  refine ⟨by omega, by omega, fun hf => ?_⟩
  have hb : b = false := by cases b <;> first | rfl | (simp at hf)
  have := h3 hb
  omega
/-- in a form -/
def PaidK (lv : Nat) (l1 : List UInt8) (n : Nat) (lx : List UInt8) (bx : Bool) : Prop := lx.length ≤ l1.length ∧ n ≤ 4 * (l1.length - lx.length) + 4 * (8 - lv) ∧ (bx = false → n ≤ 4 * (l1.length - lx.length))
theorem PaidK.start (lv : Nat) (l1 : List UInt8) (bx : Bool) : PaidK lv l1 0 l1 bx := ⟨Nat.le_refl _, by omega, fun _ => by omega⟩
theorem PaidK.step {n nk : Nat} {lx l2 l3 l4 l5 : List UInt8} {x : ByteArray} {bx b5 : Bool} (h : PaidK lv l1 n lx false) (h2 : l2.length ≤ lx.length) (h3 : l2 = bl x ++ l3) (h4 : Eaten [58] l3 ok2 l4) (h5 : Paid (lv + 1) l4 nk l5 b5) (hb : b5 = false → ok2 = true) (hlv : lv ≤ 6) :
    PaidK lv l1 (n + (1 + x.size) + 1 + nk) l5 b5 := by
  obtain ⟨a1, a2, a3⟩ := h
  obtain ⟨c1, c2, c3⟩ := h5
  have a4 := a3 rfl
  have e3 := congrArg List.length h3
  rw [List.length_append, bl_len] at e3
  have hle := h4.le
  refine ⟨by omega, by omega, fun hf => ?_⟩
  have c4 := c3 hf
  obtain rfl := hb hf
  have := h4.lt
  simp only [List.length_cons, List.length_nil] at this
  omega
theorem PaidK.done {n : Nat} {lx : List UInt8} (he : Eaten [123] l ok l1) (h : PaidK lv l1 n lx b) (hl : l'.length ≤ lx.length) (hb : b = false → ok = true ∧ l'.length < lx.length) : Paid lv l n l' b := by
  obtain ⟨a1, a2, a3⟩ := h
  have hle := he.le
  refine ⟨by omega, by omega, fun hf => ?_⟩
  have a4 := a3 hf
  obtain ⟨rfl, h2⟩ := hb hf
  have := he.lt
  simp only [List.length_cons, List.length_nil] at this
  omega
end
end Go.Proofs.YtnaecdoeldoipaaGreatDoor
