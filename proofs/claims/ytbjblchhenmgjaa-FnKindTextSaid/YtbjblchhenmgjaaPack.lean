/-
  The bytes of texts, numbers and trees: plain definitions.
-/
import Derived.Test.YtbjblchhenmgjaaTreeParts
import Derived.Test.YtbjblchhenmgjaaByt
set_option linter.unusedVariables false
set_option linter.unusedSimpArgs false
namespace Go.Proofs.Ytbjblchhenmgjaa
open Go.ChangeShapes Go.WideShapes Go.ChangeAt Go.RowKit

def sevens (n : Nat) : List UInt8 := if n < 128 then [UInt8.ofNat n] else UInt8.ofNat (n % 128 + 128) :: sevens (n / 128)
termination_by n
decreasing_by omega
theorem sevens_lt {n : Nat} (h : n < 128) : sevens n = [UInt8.ofNat n] := by rw [sevens, if_pos h]
theorem sevens_ge {n : Nat} (h : 128 ≤ n) : sevens n = UInt8.ofNat (n % 128 + 128) :: sevens (n / 128) := by rw [sevens, if_neg (by omega)]
theorem sevens_len : ∀ (k n : Nat), n < 128 ^ (k + 1) → (sevens n).length ≤ k + 1
  | 0, n, h => by rw [sevens_lt (by simpa using h)]; simp
  | k + 1, n, h => by
    by_cases h1 : n < 128
    · rw [sevens_lt h1]; simp
    · rw [sevens_ge (by omega)]
      have := sevens_len k (n / 128) (by rw [Nat.div_lt_iff_lt_mul (by decide)]; rwa [Nat.pow_succ] at h)
      simp only [List.length_cons]; omega
def numB (n : Int) : List UInt8 := (if n < 0 then 1 else 0) :: sevens n.natAbs
def short (s : ByteArray) : List UInt8 := UInt8.ofNat s.size :: s.data.toList
theorem short_len (s : ByteArray) : (short s).length = s.size + 1 := by simp only [short, List.length_cons, Array.length_toList]; rfl

mutual
def Tree.pack : Tree → List UInt8
  | .mk s n x ns ks => UInt8.ofNat s.toNat :: (if s = 1 then numB n else if s = 2 then short x else if s = 3 then [UInt8.ofNat n.toNat] else UInt8.ofNat ks.length :: Tree.packS (s == 5) ns ks)
def Tree.packS : Bool → List ByteArray → List Tree → List UInt8
  | _, _, [] => []
  | f, ns, t :: r => (if f then short (ns.headD .empty) else []) ++ t.pack ++ Tree.packS f ns.tail r
end
theorem Tree.pack_eq (t : Tree) : t.pack = UInt8.ofNat t.sort.toNat :: (if t.sort = 1 then numB t.num else if t.sort = 2 then short t.text else if t.sort = 3 then [UInt8.ofNat t.num.toNat] else UInt8.ofNat t.kids.length :: Tree.packS (t.sort == 5) t.names t.kids) := by cases t; rw [Tree.pack]; rfl
theorem Tree.packS_snoc : ∀ (l : List Tree) (f : Bool) (ns : List ByteArray) (j : Nat) (h : j < l.length),
    Tree.packS f ns (l.take (j + 1)) = Tree.packS f ns (l.take j) ++ ((if f then short (ns[j]?.getD .empty) else []) ++ l[j].pack)
  | t :: r, f, ns, 0, h => by
    simp only [List.take_succ_cons, List.take_zero, Tree.packS, List.nil_append, List.append_nil, List.getElem_cons_zero]
    cases ns <;> rfl
  | t :: r, f, ns, j + 1, h => by
    have ih := Tree.packS_snoc r f ns.tail j (by simpa using h)
    simp only [List.take_succ_cons, Tree.packS, List.getElem_cons_succ] at ih ⊢
    rw [ih]
    have e : ns.tail[j]? = ns[j + 1]? := by cases ns <;> simp
    rw [e]
    simp only [List.append_assoc]

theorem Tree.goodS_mem : ∀ (l : List Tree) (lv : Nat), Tree.goodS l lv → ∀ x ∈ l, x.good lv
  | x :: r, lv, h, y, hy => by
    simp only [Tree.goodS] at h
    rcases List.mem_cons.1 hy with rfl | hy
    · exact h.1
    · exact Tree.goodS_mem r lv h.2 y hy
theorem headD_le : ∀ (ns : List ByteArray), (∀ s ∈ ns, s.size ≤ 8) → (ns.headD .empty).size ≤ 8
  | [], _ => by decide
  | s :: r, h => h s (by simp)
theorem Tree.packS_len : ∀ (l : List Tree) (f : Bool) (ns : List ByteArray), (∀ s ∈ ns, s.size ≤ 8) → (∀ x ∈ l, x.pack.length + 10 ≤ 80 * x.parts) → (Tree.packS f ns l).length ≤ 80 * Tree.partsS l
  | [], f, ns, _, _ => by simp [Tree.packS]
  | t :: r, f, ns, hn, hk => by
    have h1 := Tree.packS_len r f ns.tail (fun s hs => hn s (List.mem_of_mem_tail hs)) (fun x hx => hk x (by simp [hx]))
    have h2 := hk t (by simp)
    have h3 := headD_le ns hn
    have h4 := short_len (ns.headD .empty)
    simp only [Tree.packS, List.length_append, Tree.partsS]
    cases f <;> simp only [Bool.false_eq_true, if_false, if_true, List.length_nil] <;> omega
theorem Tree.names_le {t : Tree} (h : t.shape) : ∀ s ∈ t.names, s.size ≤ 8 := fun s hs => by
  unfold Tree.shape at h
  have hz : t.names.length = 0 → False := fun e => by rw [List.eq_nil_of_length_eq_zero e] at hs; cases hs
  have h5 : NamesOk t.names := by
    rcases h with h | h | h | h | h | h
    · exact absurd h.2.2.2.1 hz
    · exact absurd h.2.2.2.1 hz
    · exact absurd h.2.2.2.1 hz
    · exact absurd h.2.2.2.1 hz
    · exact h.2.2.2.1
    · exact absurd h.2.2.2.1 hz
  obtain ⟨i, hi, rfl⟩ := List.getElem_of_mem hs
  exact (h5 i hi).1.2.1
theorem Tree.pack_len : ∀ (t : Tree) (lv : Nat), t.good lv → t.pack.length + 10 ≤ 80 * t.parts := by
  intro t
  refine Tree.ind (P := fun t => ∀ lv, t.good lv → t.pack.length + 10 ≤ 80 * t.parts) (fun t ih => ?_) t
  intro lv h
  have hg := (Tree.good_iff _ _).1 h
  have hp := t.parts_eq
  have hk : ∀ x ∈ t.kids, x.pack.length + 10 ≤ 80 * x.parts := fun x hx => ih x hx (lv + 1) (Tree.goodS_mem _ _ hg.2.2 x hx)
  have hs := hg.2.1
  have h3 := Tree.packS_len t.kids (t.sort == 5) t.names (Tree.names_le hs) hk
  have h4 := short_len t.text
  unfold Tree.shape at hs
  rw [t.pack_eq]
  by_cases e1 : t.sort = 1
  · rw [if_pos e1]
    have h5 : t.num.natAbs < 128 ^ 5 := by have : (128 : Nat) ^ 5 = 34359738368 := by decide
                                           omega
    have := sevens_len 4 _ h5
    simp only [List.length_cons, numB]
    omega
  by_cases e2 : t.sort = 2
  · rw [if_neg e1, if_pos e2]
    have : t.text.size ≤ 60 := by
      have h6 : TextOk t.text := by
        rcases hs with h | h | h | h | h | h
        · omega
        · exact h.2.2.1
        · omega
        · omega
        · omega
        · omega
      exact h6.1
    simp only [List.length_cons]
    omega
  by_cases e3 : t.sort = 3
  · rw [if_neg e1, if_neg e2, if_pos e3]
    simp only [List.length_cons, List.length_nil]
    omega
  rw [if_neg e1, if_neg e2, if_neg e3]
  simp only [List.length_cons]
  omega
end Go.Proofs.Ytbjblchhenmgjaa
