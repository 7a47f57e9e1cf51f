/-
  Reading schemas from texts: the program's kids: a form's parts, plain laws.
-/
import Derived.Test.YtnaecdoeldoipaaGreatDoorKJkL
import Derived.Test.YtnaecdoeldoipaaGreatDoorKRkJ
set_option linter.unusedVariables false
set_option linter.unusedSimpArgs false
namespace Go.Proofs.YtnaecdoeldoipaaGreatDoor
open Go.ChangeShapes Go.WideShapes Go.ChangeAt Go.RowKit

/-- ahead of a part: so many are read, one more must come -/
def HeadAt (lv : Nat) (l0 : List UInt8) (b : Bool) (ns : List ByteArray) (ks : List Kind) (l : List UInt8) : Prop :=
  ∀ (ns0 : List ByteArray) (ks0 : List Kind) (R : List UInt8), NamesOk ns0 → ns0.length = ks0.length → Kind.goodS ks0 (lv + 1) → l0 = bl (Kind.textS true ns0 ks0) ++ 125 :: R →
    b = false ∧ ∃ n1 k1 ns1 ks1, ns0 = ns ++ n1 :: ns1 ∧ ks0 = ks ++ k1 :: ks1 ∧ ns1.length = ks1.length ∧ l = bl n1 ++ 58 :: (bl k1.text ++ (bl (Kind.textS false ns1 ks1) ++ 125 :: R))
section
variable {lv : Nat} {l0 l l' l2 : List UInt8} {b b' b2 ok : Bool} {ns : List ByteArray} {ks : List Kind} {x : ByteArray} {k : Kind}
theorem HeadAt.start (h : Eaten [125] l0 false l) : HeadAt lv l0 false [] [] l := by
  intro ns0 ks0 R hn hl hg e
  obtain ⟨rfl, hno⟩ := h.no
  refine ⟨rfl, ?_⟩
  match ns0, ks0, hl with
  | [], [], _ => exact absurd e (hno R)
  | n :: ns, k :: ks, hl =>
    rw [textS_cons] at e
    refine ⟨n, k, ns, ks, rfl, rfl, by simpa using hl, ?_⟩
    rw [e]
    simp [comma, bl]
theorem HeadAt.part (h : HeadAt lv l0 false ns ks l) (h2 : NamedJ l false x l2 b2) (h4 : TakesK (lv + 1) l2 b2 k l' b') : FormAt lv l0 false b' (ns ++ [x]) (ks ++ [k]) l' := by
  intro ns0 ks0 R hn hl hg e
  obtain ⟨_, n1, k1, ns1, ks1, e1, e2, e3, e4⟩ := h ns0 ks0 R hn hl hg e
  have hno : NameOk n1 := names_mem hn (by rw [e1]; simp)
  have hgk : k1.good (lv + 1) := Kind.goodS_mem _ _ hg k1 (by rw [e2]; simp)
  obtain ⟨rfl, hl2, hb2⟩ := h2.2.2 n1 _ hno rfl e4
  obtain ⟨rfl, hb5, hl5⟩ := h4 k1 _ hgk hb2 hl2
  exact ⟨hb5, ns1, ks1, by rw [e1]; simp, by rw [e2]; simp, e3, hl5⟩
theorem FormAt.comma (h : FormAt lv l0 false b ns ks l) (hb : b = false) (hne : ∀ r, l ≠ 125 :: r) (h1 : Eaten [44] l ok l') : HeadAt lv l0 (!ok) ns ks l' := by
  intro ns0 ks0 R hn hl hg e
  obtain ⟨_, ns1, ks1, e1, e2, e3, e4⟩ := h ns0 ks0 R hn hl hg e
  match ns1, ks1, e3 with
  | [], [], _ => exact absurd e4 (hne R)
  | n :: ns2, k0 :: ks2, e3 =>
    rw [textS_cons] at e4
    obtain ⟨rfl, rfl⟩ := h1.yes (r := bl n ++ 58 :: (bl k0.text ++ (bl (Kind.textS false ns2 ks2) ++ 125 :: R))) (by rw [e4]; simp [Go.Proofs.YtnaecdoeldoipaaGreatDoor.comma, bl])
    exact ⟨rfl, n, k0, ns2, ks2, e1, e2, by simpa using e3, rfl⟩
theorem FormAt.dead {c : Bool} {l2 : List UInt8} (h : FormAt lv l0 c true ns ks l) : HeadAt lv l0 true ns ks l2 := fun ns0 ks0 R hn hl hg e => by
  obtain ⟨h, _⟩ := h ns0 ks0 R hn hl hg e
  cases h
theorem HeadAt.dead (h : HeadAt lv l0 true ns ks l) : TakesK lv (123 :: l0) false k l' true := by
  intro k0 R hg _ e
  rcases Kind.read_cases hg _ R e with ⟨_, e1⟩ | ⟨_, e1⟩ | ⟨_, e1⟩ | ⟨_, _, _, e1⟩ | ⟨_, _, _, e1⟩ | ⟨ns0, ks0, _, hn, hl, hgk, e1⟩
  · cases e1
  · cases e1
  · cases e1
  · cases e1
  · cases e1
  · injection e1 with _ e1
    obtain ⟨h, _⟩ := h ns0 ks0 R hn hl hgk e1
    cases h
theorem PaidK.less {n : Nat} {l1 lx l2 : List UInt8} {b b' : Bool} (h : PaidK lv l1 n lx b) (hl : l2.length ≤ lx.length) (hb : b' = false → b = false) : PaidK lv l1 n l2 b' := by
  obtain ⟨h1, h2, h3⟩ := h
  exact ⟨by omega, by omega, fun hf => by have := h3 (hb hf); omega⟩
theorem PaidK.part {n nk : Nat} {l1 lx : List UInt8} (h : PaidK lv l1 n lx false) (h2 : NamedJ lx false x l2 b2) (h5 : Paid (lv + 1) l2 nk l' b') (hb : b' = false → b2 = false) (hlv : lv ≤ 6) : PaidK lv l1 (n + (1 + x.size) + 1 + nk) l' b' := by
  obtain ⟨a1, a2, a3⟩ := h
  obtain ⟨c1, c2, c3⟩ := h5
  have a4 := a3 rfl
  obtain ⟨d1, d2, _⟩ := h2
  refine ⟨by omega, by omega, fun hf => ?_⟩
  have c4 := c3 hf
  have d4 := d2 (hb hf)
  omega
theorem paidK_done {n : Nat} {l1 lx : List UInt8} (h : PaidK lv l1 n lx b) (hl : l'.length ≤ lx.length) (hb : b = false → l'.length < lx.length) : Paid lv (123 :: l1) n l' b :=
  PaidK.done (ok := true) (.inl ⟨rfl, rfl⟩) h hl (fun hf => ⟨rfl, hb hf⟩)
/-- nothing that begins a schema comes next -/
theorem TakesK.none (h1 : ∀ r, l ≠ 91 :: r) (h2 : ∀ r, l ≠ 63 :: r) (h3 : ∀ r, l ≠ 123 :: r) (h4 : ∀ r, l ≠ 110 :: 117 :: 109 :: r) (h5 : ∀ r, l ≠ 116 :: 101 :: 120 :: 116 :: r) (h6 : ∀ r, l ≠ 102 :: 108 :: 97 :: 103 :: r) : TakesK lv l b k l' b' := by
  intro k0 R hg _ e
  rcases Kind.read_cases hg _ R e with ⟨_, e1⟩ | ⟨_, e1⟩ | ⟨_, e1⟩ | ⟨_, _, _, e1⟩ | ⟨_, _, _, e1⟩ | ⟨_, _, _, _, _, _, e1⟩
  · exact absurd e1 (h4 _)
  · exact absurd e1 (h5 _)
  · exact absurd e1 (h6 _)
  · exact absurd e1 (h1 _)
  · exact absurd e1 (h2 _)
  · exact absurd e1 (h3 _)
end
end Go.Proofs.YtnaecdoeldoipaaGreatDoor
