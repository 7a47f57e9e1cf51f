/-
  Reading schemas from texts: each way through a reader, plain laws.
-/
import Derived.Test.YtbjblchhenmgjaaRk
set_option linter.unusedVariables false
set_option linter.unusedSimpArgs false
namespace Go.Proofs.Ytbjblchhenmgjaa
open Go.ChangeShapes Go.WideShapes Go.ChangeAt Go.RowKit

theorem head_cons {l r : List UInt8} {a c : UInt8} (h : l.headD 0 = c) (e : l = a :: r) : a = c := by subst e; exact h
section
variable {lv : Nat} {l l1 l2 l' : List UInt8} {ok ok2 b : Bool} {k : Kind}
theorem TakesK.num (he : Eaten [110, 117, 109] l ok l') (hc : ∀ a r, l = a :: r → a = 110) : TakesK lv l false (.mk 1 [] []) l' (!ok) := by
  intro k0 R hg _ e
  rcases Kind.read_cases hg _ R e with ⟨rfl, e1⟩ | ⟨_, e1⟩ | ⟨_, e1⟩ | ⟨_, _, _, e1⟩ | ⟨_, _, _, e1⟩ | ⟨_, _, _, _, _, _, e1⟩
  · obtain ⟨rfl, rfl⟩ := he.yes (r := R) e1
    exact ⟨rfl, rfl, rfl⟩
  all_goals exact absurd (hc _ _ e1) (by decide)
theorem TakesK.text (he : Eaten [116, 101, 120, 116] l ok l') (hc : ∀ a r, l = a :: r → a = 116) : TakesK lv l false (.mk 2 [] []) l' (!ok) := by
  intro k0 R hg _ e
  rcases Kind.read_cases hg _ R e with ⟨_, e1⟩ | ⟨rfl, e1⟩ | ⟨_, e1⟩ | ⟨_, _, _, e1⟩ | ⟨_, _, _, e1⟩ | ⟨_, _, _, _, _, _, e1⟩
  rotate_left
  · obtain ⟨rfl, rfl⟩ := he.yes (r := R) e1
    exact ⟨rfl, rfl, rfl⟩
  all_goals exact absurd (hc _ _ e1) (by decide)
theorem TakesK.flag (he : Eaten [102, 108, 97, 103] l ok l') (hc : ∀ a r, l = a :: r → a = 102) : TakesK lv l false (.mk 3 [] []) l' (!ok) := by
  intro k0 R hg _ e
  rcases Kind.read_cases hg _ R e with ⟨_, e1⟩ | ⟨_, e1⟩ | ⟨rfl, e1⟩ | ⟨_, _, _, e1⟩ | ⟨_, _, _, e1⟩ | ⟨_, _, _, _, _, _, e1⟩
  rotate_left 2
  · obtain ⟨rfl, rfl⟩ := he.yes (r := R) e1
    exact ⟨rfl, rfl, rfl⟩
  all_goals exact absurd (hc _ _ e1) (by decide)
theorem TakesK.maybe (he : Eaten [63] l ok l1) (hc : ∀ a r, l = a :: r → a = 63) (hk : TakesK (lv + 1) l1 (!ok) k l' b) : TakesK lv l false (.mk 6 [] [k]) l' b := by
  intro k0 R hg _ e
  rcases Kind.read_cases hg _ R e with ⟨_, e1⟩ | ⟨_, e1⟩ | ⟨_, e1⟩ | ⟨_, _, _, e1⟩ | ⟨x, rfl, hx, e1⟩ | ⟨_, _, _, _, _, _, e1⟩
  rotate_left 4
  · obtain ⟨rfl, rfl⟩ := he.yes (r := bl x.text ++ R) e1
    obtain ⟨rfl, h1, h2⟩ := hk x R hx rfl rfl
    exact ⟨rfl, h1, h2⟩
  all_goals exact absurd (hc _ _ e1) (by decide)
theorem TakesK.list (he : Eaten [91] l ok l1) (hc : ∀ a r, l = a :: r → a = 91) (hk : TakesK (lv + 1) l1 (!ok) k l2 b) (h2 : Eaten [93] l2 ok2 l') : TakesK lv l false (.mk 4 [] [k]) l' (b || !ok2) := by
  intro k0 R hg _ e
  rcases Kind.read_cases hg _ R e with ⟨_, e1⟩ | ⟨_, e1⟩ | ⟨_, e1⟩ | ⟨x, rfl, hx, e1⟩ | ⟨_, _, _, e1⟩ | ⟨_, _, _, _, _, _, e1⟩
  rotate_left 3
  · obtain ⟨rfl, rfl⟩ := he.yes (r := bl x.text ++ 93 :: R) e1
    obtain ⟨rfl, rfl, h3⟩ := hk x (93 :: R) hx rfl rfl
    obtain ⟨rfl, rfl⟩ := h2.yes (r := R) h3
    exact ⟨rfl, rfl, rfl⟩
  all_goals exact absurd (hc _ _ e1) (by decide)
/-- a form, of which so much is read -/
def FormL (lv : Nat) (l : List UInt8) (c b : Bool) (ns : List ByteArray) (ks : List Kind) (lx : List UInt8) : Prop := ∀ l0, l = 123 :: l0 → FormAt lv l0 c b ns ks lx
theorem FormL.start (he : Eaten [123] l ok l1) : FormL lv l true (!ok) [] [] l1 := by
  intro l0 e
  obtain ⟨rfl, rfl⟩ := he.yes (r := l0) e
  exact FormAt.start lv _
theorem FormL.done {lx : List UInt8} {c : Bool} {ns : List ByteArray} {ks : List Kind} (h : FormL lv l c b ns ks lx) (hr : b = false → lx = 125 :: l') (hc : ∀ a r, l = a :: r → a ≠ 110 ∧ a ≠ 116 ∧ a ≠ 102 ∧ a ≠ 63 ∧ a ≠ 91) : TakesK lv l false (.mk 5 ns ks) l' b := by
  intro k0 R hg _ e
  have hq := e
  rcases Kind.read_cases hg _ R e with ⟨_, e1⟩ | ⟨_, e1⟩ | ⟨_, e1⟩ | ⟨_, _, _, e1⟩ | ⟨_, _, _, e1⟩ | ⟨_, _, _, _, _, _, e1⟩
  · exact absurd rfl (hc _ _ e1).1
  · exact absurd rfl (hc _ _ e1).2.1
  · exact absurd rfl (hc _ _ e1).2.2.1
  · exact absurd rfl (hc _ _ e1).2.2.2.2
  · exact absurd rfl (hc _ _ e1).2.2.2.1
  · have h0 := e1
    rw [h0] at hq
    exact (h _ h0).done hr k0 R hg rfl hq
theorem FormL.step {lx l2 l3 l4 l5 : List UInt8} {c ok1 ok2 b4 b5 : Bool} {ns : List ByteArray} {ks : List Kind} {x : ByteArray} (h : FormL lv l c false ns ks lx) (hne : ∀ r, lx ≠ 125 :: r)
    (h1 : (c = true ∧ l2 = lx ∧ ok1 = true) ∨ (c = false ∧ Eaten [44] lx ok1 l2)) (h2 : Named l2 x l3) (h3 : Eaten [58] l3 ok2 l4) (hb4 : ok1 = true → ok2 = true → b4 = false) (h4 : TakesK (lv + 1) l4 b4 k l5 b5) : FormL lv l false b5 (ns ++ [x]) (ks ++ [k]) l5 :=
  fun l0 e => (h l0 e).step hne h1 h2 h3 hb4 h4

/-! ### what was paid -/
theorem Paid.leaf {u : List UInt8} (hu : 1 ≤ u.length) (he : Eaten u l ok l') (n : Nat) (hn : n = 0) : Paid lv l n l' (!ok) := by
  subst hn
  refine ⟨he.le, by omega, fun h => ?_⟩
  cases ok
  · cases h
  · have := he.lt
    omega
theorem Paid.more {n : Nat} {u : List UInt8} (hu : 1 ≤ u.length) (he : Eaten u l ok l1) (h : Paid (lv + 1) l1 n l' b) (hb : b = false → ok = true) (hlv : lv ≤ 6) : Paid lv l (1 + n) l' b := by
  obtain ⟨h1, h2, h3⟩ := h
  have hle := he.le
  refine ⟨by omega, by omega, fun hf => ?_⟩
  have := h3 hf
  obtain rfl := hb hf
  have := he.lt
  omega
theorem Paid.shut {n : Nat} {u : List UInt8} (h : Paid lv l n l2 b) (he : Eaten u l2 ok2 l') : Paid lv l n l' (b || !ok2) := by
  obtain ⟨h1, h2, h3⟩ := h
  have hle := he.le
  refine ⟨by omega, by omega, fun hf => ?_⟩
  have hb : b = false := by cases b <;> first | rfl | (simp at hf)
  have := h3 hb
  omega
/-- in a form -/
def PaidF (lv : Nat) (l1 : List UInt8) (n : Nat) (lx : List UInt8) (bx : Bool) : Prop := lx.length ≤ l1.length ∧ n ≤ 4 * (l1.length - lx.length) + 4 * (8 - lv) ∧ (bx = false → n ≤ 4 * (l1.length - lx.length))
theorem PaidF.start (lv : Nat) (l1 : List UInt8) (bx : Bool) : PaidF lv l1 0 l1 bx := ⟨Nat.le_refl _, by omega, fun _ => by omega⟩
theorem PaidF.step {n nk : Nat} {lx l2 l3 l4 l5 : List UInt8} {x : ByteArray} {bx b5 : Bool} (h : PaidF lv l1 n lx false) (h2 : l2.length ≤ lx.length) (h3 : l2 = bl x ++ l3) (h4 : Eaten [58] l3 ok2 l4) (h5 : Paid (lv + 1) l4 nk l5 b5) (hb : b5 = false → ok2 = true) (hlv : lv ≤ 6) :
    PaidF lv l1 (n + (1 + x.size) + 1 + nk) l5 b5 := by
  obtain ⟨a1, a2, a3⟩ := h
  obtain ⟨c1, c2, c3⟩ := h5
  have a4 := a3 rfl
  have e3 := congrArg List.length h3
  rw [List.length_append, bl_len] at e3
  have hle := h4.le
  refine ⟨by omega, by omega, fun hf => ?_⟩
  have c4 := c3 hf
  obtain rfl := hb hf
  have := h4.lt
  simp only [List.length_cons, List.length_nil] at this
  omega
theorem PaidF.done {n : Nat} {lx : List UInt8} (he : Eaten [123] l ok l1) (h : PaidF lv l1 n lx b) (hl : l'.length ≤ lx.length) (hb : b = false → ok = true ∧ l'.length < lx.length) : Paid lv l n l' b := by
  obtain ⟨a1, a2, a3⟩ := h
  have hle := he.le
  refine ⟨by omega, by omega, fun hf => ?_⟩
  have a4 := a3 hf
  obtain ⟨rfl, h2⟩ := hb hf
  have := he.lt
  simp only [List.length_cons, List.length_nil] at this
  omega
end
theorem Kind.bulk_form (ns : List ByteArray) (ks : List Kind) : (Kind.mk 5 ns ks).bulk = bulkStrs ns + ks.length + Kind.bulkS ks := Kind.bulk_eq _
theorem bulkStrs_snoc (ns : List ByteArray) (x : ByteArray) : bulkStrs (ns ++ [x]) = bulkStrs ns + (1 + x.size) := by
  unfold bulkStrs
  rw [bulkStr_append, List.length_append]
  simp [bulkStr]
  omega
theorem kbulkS_snoc (ks : List Kind) (k : Kind) : Kind.bulkS (ks ++ [k]) = Kind.bulkS ks + k.bulk := by
  rw [Kind.bulkS_append]
  simp [Kind.bulkS]
end Go.Proofs.Ytbjblchhenmgjaa
