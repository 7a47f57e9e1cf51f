/-
  Reading trees from texts: each way through a reader, plain laws.
-/
import Derived.Test.YtnaecdoeldoipaaGreatDoorTr
set_option linter.unusedVariables false
set_option linter.unusedSimpArgs false
namespace Go.Proofs.YtnaecdoeldoipaaGreatDoor
open Go.ChangeShapes Go.WideShapes Go.ChangeAt Go.RowKit

section
variable {lv : Nat} {l l1 l2 l' : List UInt8} {ok ok2 bad bad' b : Bool} {k : Tree}
def TextTaken (l : List UInt8) (bad : Bool) (x : ByteArray) (l' : List UInt8) (bad' : Bool) : Prop :=
  ∀ (y : ByteArray) (R : List UInt8), (∀ c ∈ bl y, c ≠ 34) → bad = false → l = 34 :: (bl y ++ 34 :: R) → x = y ∧ bad' = false ∧ l' = R
def NumTaken (l : List UInt8) (bad : Bool) (n : Int) (l' : List UInt8) (bad' : Bool) : Prop :=
  ∀ (z : Int) (R : List UInt8), -999999999 ≤ z ∧ z ≤ 999999999 → Ender R → bad = false → l = bl (dec z) ++ R → n = z ∧ bad' = false ∧ l' = R
theorem num_head {n : Int} {R : List UInt8} {c : UInt8} (hc : ∀ a r, l = a :: r → a = c) (e : l = bl (dec n) ++ R) (h : c ≠ 45 ∧ ¬ (48 ≤ c.toNat ∧ c.toNat ≤ 57)) : False := by
  obtain ⟨d, r, hd, hdd⟩ := dec_head n
  rw [hd] at e
  have := hc d (r ++ R) e
  subst this
  rcases hdd with hdd | hdd
  · exact h.1 hdd
  · exact h.2 hdd
theorem TakesT.text {x : ByteArray} (ht : TextTaken l bad x l' bad') (hc : ∀ a r, l = a :: r → a = 34) : TakesT lv l bad (.mk 2 0 x [] []) l' bad' := by
  intro k0 R hg hR hb e
  rcases Tree.read_cases hg l R e with ⟨n, _, _, e⟩ | ⟨y, rfl, _, hy, e⟩ | ⟨_, e⟩ | ⟨_, e⟩ | ⟨ks, _, _, e⟩ | ⟨ns, ks, _, _, _, e⟩ | ⟨_, e⟩ | ⟨y, _, _, e⟩
  · exact (num_head hc e (by decide)).elim
  · obtain ⟨rfl, h1, h2⟩ := ht y R hy hb e
    exact ⟨rfl, h1, h2⟩
  all_goals exact absurd (hc _ _ e) (by decide)
theorem TakesT.yes (he : Eaten [121, 101, 115] l ok l') (hc : ∀ a r, l = a :: r → a = 121) : TakesT lv l false (.mk 3 1 .empty [] []) l' (!ok) := by
  intro k0 R hg hR hb e
  rcases Tree.read_cases hg l R e with ⟨n, _, _, e⟩ | ⟨y, _, _, _, e⟩ | ⟨rfl, e⟩ | ⟨_, e⟩ | ⟨ks, _, _, e⟩ | ⟨ns, ks, _, _, _, e⟩ | ⟨_, e⟩ | ⟨y, _, _, e⟩
  · exact (num_head hc e (by decide)).elim
  · exact absurd (hc _ _ e) (by decide)
  · obtain ⟨rfl, h⟩ := he.yes (r := R) e
    exact ⟨rfl, rfl, h⟩
  all_goals exact absurd (hc _ _ e) (by decide)
theorem TakesT.no (he : Eaten [110, 111] l ok l') (hc : ∀ a r, l = a :: r → a = 110) : TakesT lv l false (.mk 3 0 .empty [] []) l' (!ok) := by
  intro k0 R hg hR hb e
  rcases Tree.read_cases hg l R e with ⟨n, _, _, e⟩ | ⟨y, _, _, _, e⟩ | ⟨_, e⟩ | ⟨rfl, e⟩ | ⟨ks, _, _, e⟩ | ⟨ns, ks, _, _, _, e⟩ | ⟨_, e⟩ | ⟨y, _, _, e⟩
  · exact (num_head hc e (by decide)).elim
  · exact absurd (hc _ _ e) (by decide)
  · exact absurd (hc _ _ e) (by decide)
  · obtain ⟨rfl, h⟩ := he.yes (r := R) e
    exact ⟨rfl, rfl, h⟩
  all_goals exact absurd (hc _ _ e) (by decide)
theorem TakesT.tilde (he : Eaten [126] l ok l') (hc : ∀ a r, l = a :: r → a = 126) : TakesT lv l false (.mk 6 0 .empty [] []) l' (!ok) := by
  intro k0 R hg hR hb e
  rcases Tree.read_cases hg l R e with ⟨n, _, _, e⟩ | ⟨y, _, _, _, e⟩ | ⟨_, e⟩ | ⟨_, e⟩ | ⟨ks, _, _, e⟩ | ⟨ns, ks, _, _, _, e⟩ | ⟨rfl, e⟩ | ⟨y, _, _, e⟩
  · exact (num_head hc e (by decide)).elim
  iterate 5 exact absurd (hc _ _ e) (by decide)
  · obtain ⟨rfl, h⟩ := he.yes (r := R) e
    exact ⟨rfl, rfl, h⟩
  · exact absurd (hc _ _ e) (by decide)
theorem TakesT.maybe (he : Eaten [63] l ok l1) (hc : ∀ a r, l = a :: r → a = 63) (hk : TakesT (lv + 1) l1 (!ok) k l' b) : TakesT lv l false (.mk 6 0 .empty [] [k]) l' b := by
  intro k0 R hg hR hb e
  rcases Tree.read_cases hg l R e with ⟨n, _, _, e⟩ | ⟨y, _, _, _, e⟩ | ⟨_, e⟩ | ⟨_, e⟩ | ⟨ks, _, _, e⟩ | ⟨ns, ks, _, _, _, e⟩ | ⟨_, e⟩ | ⟨y, rfl, hgy, e⟩
  · exact (num_head hc e (by decide)).elim
  iterate 6 exact absurd (hc _ _ e) (by decide)
  · obtain ⟨rfl, h⟩ := he.yes (r := bl y.wr ++ R) e
    obtain ⟨rfl, h1, h2⟩ := hk y R hgy hR rfl h
    exact ⟨rfl, h1, h2⟩
theorem TakesT.list {c : Bool} {ns : List ByteArray} {ks : List Tree} {lx : List UInt8} (h : PartsAt 4 lv l1 c b ns ks lx) (hl : l = 91 :: l1) (hr : b = false → lx = 93 :: l') : TakesT lv l false (.mk 4 0 .empty ns ks) l' b := by
  intro k0 R hg hR hb e
  rcases Tree.read_cases hg l R e with ⟨n, _, _, e⟩ | ⟨y, _, _, _, e⟩ | ⟨_, e⟩ | ⟨_, e⟩ | ⟨ks0, rfl, hgk, e⟩ | ⟨ns0, ks0, _, _, _, e⟩ | ⟨_, e⟩ | ⟨y, _, _, e⟩
  · exact (num_head (c := 91) (fun a r h => by rw [hl] at h; injection h with h; exact h.symm) e (by decide)).elim
  iterate 3 (rw [hl] at e; injection e with e _; exact absurd e (by decide))
  · rw [hl] at e
    injection e with _ e
    obtain ⟨e1, e2, e3, e4⟩ := h.fin hr [] ks0 R (.inr ⟨rfl, rfl⟩) hgk e
    subst e1 e2
    exact ⟨rfl, e3, e4⟩
  all_goals (rw [hl] at e; injection e with e _; exact absurd e (by decide))
theorem TakesT.form {c : Bool} {ns : List ByteArray} {ks : List Tree} {lx : List UInt8} (h : PartsAt 5 lv l1 c b ns ks lx) (hl : l = 123 :: l1) (hr : b = false → lx = 125 :: l') : TakesT lv l false (.mk 5 0 .empty ns ks) l' b := by
  intro k0 R hg hR hb e
  rcases Tree.read_cases hg l R e with ⟨n, _, _, e⟩ | ⟨y, _, _, _, e⟩ | ⟨_, e⟩ | ⟨_, e⟩ | ⟨ks0, _, hgk, e⟩ | ⟨ns0, ks0, rfl, hf, hgk, e⟩ | ⟨_, e⟩ | ⟨y, _, _, e⟩
  · exact (num_head (c := 123) (fun a r h => by rw [hl] at h; injection h with h; exact h.symm) e (by decide)).elim
  iterate 4 (rw [hl] at e; injection e with e _; exact absurd e (by decide))
  · rw [hl] at e
    injection e with _ e
    obtain ⟨e1, e2, e3, e4⟩ := h.fin hr ns0 ks0 R hf hgk e
    subst e1 e2
    exact ⟨rfl, e3, e4⟩
  all_goals (rw [hl] at e; injection e with e _; exact absurd e (by decide))
theorem TakesT.num {n : Int} (ht : NumTaken l bad n l' bad') (hc : ∀ a r, l = a :: r → a ≠ 34 ∧ a ≠ 121 ∧ a ≠ 110 ∧ a ≠ 126 ∧ a ≠ 63 ∧ a ≠ 91 ∧ a ≠ 123) : TakesT lv l bad (.mk 1 n .empty [] []) l' bad' := by
  intro k0 R hg hR hb e
  rcases Tree.read_cases hg l R e with ⟨z, rfl, hz, e⟩ | ⟨y, _, _, _, e⟩ | ⟨_, e⟩ | ⟨_, e⟩ | ⟨ks, _, _, e⟩ | ⟨ns, ks, _, _, _, e⟩ | ⟨_, e⟩ | ⟨y, _, _, e⟩
  · obtain ⟨rfl, h1, h2⟩ := ht z R hz hR hb e
    exact ⟨rfl, h1, h2⟩
  all_goals exact absurd (hc _ _ e) (by decide)
/-! how much is paid -/
theorem Paid.leaf {u : List UInt8} (hu : 1 ≤ u.length) (he : Eaten u l ok l') (n : Nat) (hn : n = 0) : Paid lv l n l' (!ok) := by
  subst hn
  refine ⟨he.le, by omega, fun h => ?_⟩
  cases ok
  · cases h
  · have := he.lt
    omega
theorem Paid.more {n : Nat} {u : List UInt8} (hu : 1 ≤ u.length) (he : Eaten u l ok l1) (h : Paid (lv + 1) l1 n l' b) (hb : b = false → ok = true) (hlv : lv ≤ 6) : Paid lv l (1 + n) l' b := by
  obtain ⟨h1, h2, h3⟩ := h
  have hle := he.le
  refine ⟨by omega, by omega, fun hf => ?_⟩
  have := h3 hf
  obtain rfl := hb hf
  have := he.lt
  omega
def PaidF (lv : Nat) (l1 : List UInt8) (n : Nat) (lx : List UInt8) (bx : Bool) : Prop := lx.length ≤ l1.length ∧ n ≤ 4 * (l1.length - lx.length) + 4 * (8 - lv) ∧ (bx = false → n ≤ 4 * (l1.length - lx.length))
theorem PaidF.start (lv : Nat) (l1 : List UInt8) (bx : Bool) : PaidF lv l1 0 l1 bx := ⟨Nat.le_refl _, by omega, fun _ => by omega⟩
/-- a part more: so much was read for its name (m) and so much came of its tree (nk) -/
theorem PaidF.step {n nk m : Nat} {lx l4 l5 : List UInt8} {b5 : Bool} (h : PaidF lv l1 n lx false) (hm : l4.length ≤ lx.length ∧ m ≤ 4 * (lx.length - l4.length) + 1) (h5 : Paid (lv + 1) l4 nk l5 b5) (hb : b5 = false → m ≤ 4 * (lx.length - l4.length)) (hlv : lv ≤ 6) :
    PaidF lv l1 (n + m + 1 + nk) l5 b5 := by
  obtain ⟨a1, a2, a3⟩ := h
  obtain ⟨c1, c2, c3⟩ := h5
  have a4 := a3 rfl
  refine ⟨by omega, by omega, fun hf => ?_⟩
  have c4 := c3 hf
  have := hb hf
  omega
theorem PaidF.done {n : Nat} {lx : List UInt8} {c : UInt8} (hl1 : l = c :: l1) (h : PaidF lv l1 n lx b) (hl : l'.length ≤ lx.length) (hb : b = false → l'.length < lx.length) : Paid lv l n l' b := by
  obtain ⟨a1, a2, a3⟩ := h
  have e := congrArg List.length hl1
  rw [List.length_cons] at e
  refine ⟨by omega, by omega, fun hf => ?_⟩
  have a4 := a3 hf
  have := hb hf
  omega
end
theorem Tree.bulk_mk (s n : Int) (x : ByteArray) (ns : List ByteArray) (ks : List Tree) : (Tree.mk s n x ns ks).bulk = x.size + bulkStrs ns + ks.length + Tree.bulkS ks := Tree.bulk_eq _
theorem Tree.bulk_leaf (s n : Int) : (Tree.mk s n .empty [] []).bulk = 0 := rfl
theorem Tree.bulk_text (x : ByteArray) : (Tree.mk 2 0 x [] []).bulk = x.size := rfl
theorem Tree.bulk_one (s n : Int) (k : Tree) : (Tree.mk s n .empty [] [k]).bulk = 1 + k.bulk := by
  rw [Tree.bulk_mk]
  simp only [Tree.bulkS, List.length_cons, List.length_nil]
  have e1 : bulkStrs [] = 0 := rfl
  have e2 : (ByteArray.empty).size = 0 := rfl
  omega
theorem bulkStrs_snoc (ns : List ByteArray) (x : ByteArray) : bulkStrs (ns ++ [x]) = bulkStrs ns + (1 + x.size) := by
  unfold bulkStrs
  rw [bulkStr_append, List.length_append]
  simp [bulkStr]
  omega
theorem tbulkS_snoc (ks : List Tree) (k : Tree) : Tree.bulkS (ks ++ [k]) = Tree.bulkS ks + k.bulk := by
  rw [Tree.bulkS_append]
  simp [Tree.bulkS]
/-! a number's digits -/
theorem numK_digits' : ∀ (ds : List UInt8) (k : Nat) (acc : Int) (R : List UInt8), (∀ d ∈ ds, 48 ≤ d.toNat ∧ d.toNat ≤ 57) → ds.length ≤ k → (∀ c r, R = c :: r → ¬ (48 ≤ c.toNat ∧ c.toNat ≤ 57)) → numK k acc (ds ++ R) = (valD acc ds, ds.length)
  | [], 0, acc, R, _, _, _ => rfl
  | [], k + 1, acc, [], _, _, _ => rfl
  | [], k + 1, acc, c :: r, _, _, h => by
    simp only [List.nil_append, numK, if_neg (h c r rfl)]
    rfl
  | d :: ds, 0, acc, R, _, h, _ => by simp at h
  | d :: ds, k + 1, acc, R, hd, hl, hb => by
    have ih := numK_digits' ds k (acc * 10 + ((d.toNat : Int) - 48)) R (fun x hx => hd x (by simp [hx])) (by simpa using hl) hb
    simp only [List.cons_append, numK]
    rw [if_pos (hd d (by simp)), ih]
    rfl
/-- what a number reads as: a sign, at most ten digits -/
def numOf10 (l : List UInt8) : Int × Nat := if l.headD 0 = 45 then (-(numK 10 0 (l.drop 1)).1, 1 + (numK 10 0 (l.drop 1)).2) else numK 10 0 l
theorem ender_digit {R : List UInt8} (h : Ender R) : ∀ c r, R = c :: r → ¬ (48 ≤ c.toNat ∧ c.toNat ≤ 57) := fun c r e => by
  rcases h c r e with rfl | rfl | rfl <;> decide
theorem decDigits_nine (u : Nat) (h : u ≤ 999999999) : (Lib.decDigits u).length ≤ 10 := Nat.le_trans (decDigits_len 8 u (by omega)) (by decide)
theorem numOf10_dec (z : Int) (hz : -999999999 ≤ z ∧ z ≤ 999999999) (R : List UInt8) (hR : Ender R) : (numOf10 (bl (dec z) ++ R)).1 = z ∧ (bl (dec z) ++ R).drop (numOf10 (bl (dec z) ++ R)).2 = R ∧ (if (bl (dec z) ++ R).headD 0 = 45 then 1 else 0) < (numOf10 (bl (dec z) ++ R)).2 := by
  have e : bl (dec z) = Lib.itoa z := by unfold bl; exact dec_bytes z
  rw [e]
  unfold Lib.itoa
  have hlen : ∀ u : Nat, u ≤ 999999999 → 1 ≤ (Lib.decDigits u).length := fun u _ => by rw [Lib.decDigits]; split <;> simp
  split
  · rename_i hneg
    have hu : z.natAbs ≤ 999999999 := by omega
    have h1 := numK_digits' (Lib.decDigits z.natAbs) 10 0 R (digits_mem _ _ (Nat.le_refl _)) (decDigits_nine _ hu) (ender_digit hR)
    have h2 := valD_digits _ z.natAbs (Nat.le_refl _)
    unfold numOf10
    simp only [List.cons_append, List.headD_cons, if_true, List.drop_succ_cons, List.drop_zero]
    rw [h1, h2]
    refine ⟨by simp only; omega, ?_, by have := hlen _ hu; simp only; omega⟩
    simp only
    rw [Nat.add_comm, List.drop_succ_cons, List.drop_left]
  · rename_i hneg
    have hu : z.toNat ≤ 999999999 := by omega
    have h1 := numK_digits' (Lib.decDigits z.toNat) 10 0 R (digits_mem _ _ (Nat.le_refl _)) (decDigits_nine _ hu) (ender_digit hR)
    have h2 := valD_digits _ z.toNat (Nat.le_refl _)
    have h3 := hlen _ hu
    have h4 : (Lib.decDigits z.toNat ++ R).headD 0 ≠ 45 := by
      match hd : Lib.decDigits z.toNat, h3 with
      | d :: ds, _ =>
        have := digits_mem _ z.toNat (Nat.le_refl _) d (by rw [hd]; simp)
        simp only [List.cons_append, List.headD_cons]
        rintro rfl
        revert this
        decide
    unfold numOf10
    rw [if_neg h4, if_neg h4, h1, h2]
    exact ⟨by simp only; omega, by simp only; rw [List.drop_left], by simp only; omega⟩
theorem num10_bd (l : List UInt8) : -9999999999 ≤ (numOf10 l).1 ∧ (numOf10 l).1 ≤ 9999999999 := by
  have h : ∀ l, 0 ≤ (numK 10 0 l).1 ∧ (numK 10 0 l).1 ≤ 9999999999 := fun l => by
    have h := numK_bd 10 0 l (by decide)
    have e : ((0 : Int) + 1) * 10 ^ 10 = 10000000000 := by decide
    rw [e] at h
    omega
  unfold numOf10
  split
  · have := h (l.drop 1); simp only; omega
  · have := h l; omega
end Go.Proofs.YtnaecdoeldoipaaGreatDoor
