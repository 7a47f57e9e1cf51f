/-
  Decimals: what strconv.Itoa and the reference's l6Dec make. The text of a tree: plain. The text of a plan of a log: plain.
-/
import Derived.Lib.ItoaNum
import Derived.Test.YtnaecdoeldoipaaGreatDoorKDTree
import Derived.Test.YtnaecdoeldoipaaGreatDoorKKid
import Derived.Test.YtnaecdoeldoipaaGreatDoorKTreeParts
set_option linter.unusedVariables false
set_option linter.unusedSimpArgs false
namespace Go.Proofs.YtnaecdoeldoipaaGreatDoor
open Go.ChangeShapes Go.WideShapes Go.ChangeAt Go.RowKit

def dec (n : Int) : ByteArray := ⟨(Lib.itoa n).toArray⟩
theorem decDigits_len : ∀ (k u : Nat), u < 10 ^ (k + 1) → (Lib.decDigits u).length ≤ k + 1
  | 0, u, h => by
    rw [Lib.decDigits, dif_pos (by simpa using h)]
    simp
  | k + 1, u, h => by
    rw [Lib.decDigits]
    split
    · simp
    · rw [List.length_append]
      have := decDigits_len k (u / 10) (by rw [Nat.pow_succ] at h; omega)
      simp
      omega
theorem dec_size (n : Int) (h1 : -9223372036854775808 ≤ n) (h2 : n ≤ 9223372036854775807) : (dec n).size ≤ 20 := by
  have hs : (dec n).size = (Lib.itoa n).length := by simp [dec, ByteArray.size]
  rw [hs]
  have e10 : (10 : Nat) ^ (18 + 1) = 10000000000000000000 := by decide
  unfold Lib.itoa
  split
  · have := decDigits_len 18 n.natAbs (by rw [e10]; omega)
    simp only [List.length_cons]; omega
  · have := decDigits_len 18 n.toNat (by rw [e10]; omega)
    omega
theorem dec_low {n : Int} (h0 : 0 ≤ n) (h : n < 10) : dec n = ⟨#[UInt8.ofNat (48 + n.toNat)]⟩ := by
  unfold dec Lib.itoa
  rw [if_neg (by omega), Lib.decDigits, dif_pos (by omega)]
theorem dec_high {n : Int} (h : 10 ≤ n) : dec n = dec (n / 10) ++ ⟨#[UInt8.ofNat (48 + (n % 10).toNat)]⟩ := by
  unfold dec Lib.itoa
  rw [if_neg (by omega), if_neg (by omega), Lib.decDigits, dif_neg (by omega)]
  have e1 : (n / 10).toNat = n.toNat / 10 := by omega
  have e2 : (n % 10).toNat = n.toNat % 10 := by omega
  rw [e1, e2]
  apply ByteArray.ext
  simp
end Go.Proofs.YtnaecdoeldoipaaGreatDoor
set_option linter.unusedVariables false
set_option linter.unusedSimpArgs false
namespace Go.Proofs.YtnaecdoeldoipaaGreatDoor
open Go.ChangeShapes Go.WideShapes Go.ChangeAt Go.RowKit

/-- what stands ahead of a kid: a comma, and in a form its name -/
def kidHead (s : Int) (ns : List ByteArray) (i : Nat) : ByteArray := (if i = 0 then ⟨#[]⟩ else ⟨#[44]⟩) ++ (if s = 5 then ns[i]?.getD .empty ++ ⟨#[58]⟩ else ⟨#[]⟩)
mutual
def Tree.wr : Tree → ByteArray
  | .mk s n x ns ks => if s = 1 then dec n else if s = 2 then ⟨#[34]⟩ ++ x ++ ⟨#[34]⟩ else if s = 3 then (if n = 1 then ⟨#[121, 101, 115]⟩ else ⟨#[110, 111]⟩)
    else if s = 4 then ⟨#[91]⟩ ++ Tree.wrS s ns 0 ks ++ ⟨#[93]⟩ else if s = 5 then ⟨#[123]⟩ ++ Tree.wrS s ns 0 ks ++ ⟨#[125]⟩ else Tree.wrM ks
def Tree.wrM : List Tree → ByteArray
  | [] => ⟨#[126]⟩
  | k :: _ => ⟨#[63]⟩ ++ k.wr
def Tree.wrS : Int → List ByteArray → Nat → List Tree → ByteArray
  | s, ns, i, k :: ks => kidHead s ns i ++ k.wr ++ Tree.wrS s ns (i + 1) ks
  | _, _, _, [] => .empty
end
theorem Tree.wr_eq (k : Tree) : k.wr = if k.sort = 1 then dec k.num else if k.sort = 2 then ⟨#[34]⟩ ++ k.text ++ ⟨#[34]⟩ else if k.sort = 3 then (if k.num = 1 then ⟨#[121, 101, 115]⟩ else ⟨#[110, 111]⟩)
    else if k.sort = 4 then ⟨#[91]⟩ ++ Tree.wrS k.sort k.names 0 k.kids ++ ⟨#[93]⟩ else if k.sort = 5 then ⟨#[123]⟩ ++ Tree.wrS k.sort k.names 0 k.kids ++ ⟨#[125]⟩ else Tree.wrM k.kids := by cases k; rw [Tree.wr]; rfl
theorem Tree.wrS_snoc (s : Int) (ns : List ByteArray) : ∀ (ks : List Tree) (i j : Nat) (h : j < ks.length), Tree.wrS s ns i (ks.take (j + 1)) = Tree.wrS s ns i (ks.take j) ++ (kidHead s ns (i + j) ++ ks[j].wr)
  | k :: ks, i, 0, _ => by simp [Tree.wrS, List.take]
  | k :: ks, i, j + 1, h => by
    have ih := Tree.wrS_snoc s ns ks (i + 1) j (by simpa using h)
    simp only [List.take_succ_cons, Tree.wrS, List.getElem_cons_succ]
    rw [ih, show i + 1 + j = i + (j + 1) by omega]
    simp only [ByteArray.append_assoc]
theorem Tree.wrM_at (l : List Tree) (h : 0 < l.length) : Tree.wrM l = ⟨#[63]⟩ ++ l[0].wr := by
  cases l with
  | nil => simp at h
  | cons x r => simp [Tree.wrM]
theorem kidHead_size (s : Int) (ns : List ByteArray) (i : Nat) (h : ∀ j (hj : j < ns.length), ns[j].size ≤ 8) : (kidHead s ns i).size ≤ 10 := by
  unfold kidHead
  have e1 : (ByteArray.mk #[]).size = 0 := rfl
  have e2 : (ByteArray.mk #[44]).size = 1 := rfl
  have e3 : (ByteArray.mk #[58]).size = 1 := rfl
  have e4 : (ns[i]?.getD .empty).size ≤ 8 := by
    by_cases hi : i < ns.length
    · rw [List.getElem?_eq_getElem hi]
      exact h i hi
    · rw [List.getElem?_eq_none (by omega)]
      exact Nat.zero_le _
  split <;> split <;> simp only [ByteArray.size_append] <;> omega
theorem Tree.wrS_size (s : Int) (ns : List ByteArray) (h : ∀ j (hj : j < ns.length), ns[j].size ≤ 8) : ∀ (ks : List Tree) (i : Nat), (∀ x ∈ ks, x.wr.size + 10 ≤ 80 * x.parts) → (Tree.wrS s ns i ks).size ≤ 80 * Tree.partsS ks
  | [], _, _ => by simp [Tree.wrS]
  | k :: ks, i, hk => by
    have h1 := Tree.wrS_size s ns h ks (i + 1) (fun x hx => hk x (List.mem_cons_of_mem _ hx))
    have h2 := hk k (List.mem_cons_self ..)
    have h3 := kidHead_size s ns i h
    simp only [Tree.wrS, ByteArray.size_append, Tree.partsS]
    omega
theorem Tree.goodS_mem : ∀ (l : List Tree) (lv : Nat), Tree.goodS l lv → ∀ x ∈ l, x.good lv
  | x :: r, lv, h, y, hy => by
    simp only [Tree.goodS] at h
    rcases List.mem_cons.1 hy with rfl | hy
    · exact h.1
    · exact Tree.goodS_mem r lv h.2 y hy
theorem Tree.names_small {k : Tree} (h : k.shape) : ∀ j (hj : j < k.names.length), k.names[j].size ≤ 8 := by
  intro j hj
  rcases h with h | h | h | h | h | h
  · have := h.2.2.2.1; omega
  · have := h.2.2.2.1; omega
  · have := h.2.2.2.1; omega
  · have := h.2.2.2.1; omega
  · exact (h.2.2.2.1 j hj).1.2.1
  · have := h.2.2.2.1; omega
theorem Tree.wr_size : ∀ (k : Tree) (lv : Nat), k.good lv → k.wr.size + 10 ≤ 80 * k.parts := by
  intro k
  refine Tree.ind (P := fun k => ∀ lv, k.good lv → k.wr.size + 10 ≤ 80 * k.parts) (fun k ih => ?_) k
  intro lv h
  have hg := (Tree.good_iff _ _).1 h
  have hp := k.parts_eq
  have hk : ∀ x ∈ k.kids, x.wr.size + 10 ≤ 80 * x.parts := fun x hx => ih x hx (lv + 1) (Tree.goodS_mem _ _ hg.2.2 x hx)
  have hS := Tree.wrS_size k.sort k.names (Tree.names_small hg.2.1) k.kids 0 hk
  have hM : (Tree.wrM k.kids).size ≤ 1 + 80 * Tree.partsS k.kids := by
    match hh : k.kids with
    | [] =>
      have e3 : (ByteArray.mk #[126]).size = 1 := rfl
      simp only [Tree.wrM]
      omega
    | x :: r =>
      have := hk x (by rw [hh]; simp)
      have e3 : (ByteArray.mk #[63]).size = 1 := rfl
      simp only [Tree.wrM, Tree.partsS, ByteArray.size_append]
      omega
  rw [k.wr_eq]
  have e1 : (ByteArray.mk #[91]).size = 1 := rfl
  have e2 : (ByteArray.mk #[93]).size = 1 := rfl
  have e4 : (ByteArray.mk #[123]).size = 1 := rfl
  have e5 : (ByteArray.mk #[125]).size = 1 := rfl
  have e6 : (ByteArray.mk #[121, 101, 115]).size = 3 := rfl
  have e7 : (ByteArray.mk #[110, 111]).size = 2 := rfl
  have e8 : (ByteArray.mk #[34]).size = 1 := rfl
  split
  · rename_i hs
    have hn : -999999999 ≤ k.num ∧ k.num ≤ 999999999 := by
      rcases hg.2.1 with h | h | h | h | h | h
      · exact h.2.1
      all_goals (have := h.1; omega)
    have := dec_size k.num (by omega) (by omega)
    omega
  split
  · rename_i hs1 hs
    have hn : k.text.size ≤ 60 := by
      rcases hg.2.1 with h | h | h | h | h | h
      · have := h.1; omega
      · exact h.2.2.1.1
      all_goals (have := h.1; omega)
    simp only [ByteArray.size_append]
    omega
  split
  · split <;> omega
  split
  · simp only [ByteArray.size_append]; omega
  split
  · simp only [ByteArray.size_append]; omega
  · omega
noncomputable def Tree.write (k : Tree) : ByteArray := if tb k.ok = true then k.wr else .empty
theorem Tree.partsS_at (l : List Tree) (j : Nat) (h : j < l.length) : l[j].parts ≤ Tree.partsS l := by
  have h1 := Tree.partsS_snoc l j h
  have h2 := Tree.partsS_le l (j + 1)
  omega
end Go.Proofs.YtnaecdoeldoipaaGreatDoor
set_option linter.unusedVariables false
set_option linter.unusedSimpArgs false
namespace Go.Proofs.YtnaecdoeldoipaaGreatDoor
open Go.ChangeShapes Go.WideShapes Go.ChangeAt Go.RowKit

def joinedText (word : ByteArray) (l : List Int) : ByteArray := l.foldl (fun s n => s ++ (⟨#[32]⟩ ++ dec n)) word
def LogPart.nums (x : LogPart) : List Int := [x.num, x.first, x.next, x.size]
def LogPart.line (x : LogPart) : ByteArray := joinedText ⟨#[115, 101, 97, 108]⟩ x.nums ++ ⟨#[10]⟩
def partLines (l : List LogPart) : ByteArray := l.foldl (fun s x => s ++ x.line) .empty
def LogPlan.last (p : LogPlan) : ByteArray := joinedText ⟨#[111, 112, 101, 110]⟩ [p.open_, p.first] ++ ⟨#[10, 101, 110, 100, 10]⟩
def LogPlan.text (p : LogPlan) : ByteArray := partLines p.parts ++ p.last
noncomputable def LogPlan.write (p : LogPlan) : ByteArray := if tb p.ok = true then p.text else .empty
/-- the numbers of a part that is ok -/
def LogPart.small (x : LogPart) : Prop := ∀ n ∈ x.nums, 0 ≤ n ∧ n ≤ 1000000
theorem LogPlan.parts_pos (p : LogPlan) (h : p.ok) : ∀ j (hj : j < p.parts.length), 1 ≤ p.parts[j].first ∧ p.parts[j].first ≤ p.parts[j].next ∧ p.parts[j].next ≤ 1000000 := fun j => by
  induction j with
  | zero =>
    intro hj
    have q := h.2.2.1 0 hj
    have q3 := q.2.2.1
    have q4 := q.2.2.2.1
    rw [LogPlan.after_zero] at q3
    omega
  | succ j ih =>
    intro hj
    have q := h.2.2.1 (j + 1) hj
    have q3 := q.2.2.1
    have q4 := q.2.2.2.1
    rw [LogPlan.after_succ p j (by omega)] at q3
    have := ih (by omega)
    omega
theorem LogPlan.small (p : LogPlan) (h : p.ok) : ∀ i (hi : i < p.parts.length), p.parts[i].small := fun i hi n hn => by
  obtain ⟨h1, h2, h3, h4, h5, h6⟩ := h.2.2.1 i hi
  have h7 := p.parts_pos h i hi
  unfold LogPart.nums at hn
  simp only [List.mem_cons, List.not_mem_nil, or_false] at hn
  rcases hn with rfl | rfl | rfl | rfl <;> omega
end Go.Proofs.YtnaecdoeldoipaaGreatDoor
