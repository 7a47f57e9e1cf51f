/-
  The text of a schema: what the program's write and the reference's l2Text make.
-/
import Derived.Test.YtbjblchhenmgjaaKindParts
import Derived.Test.YtbjblchhenmgjaaBld
set_option linter.unusedVariables false
set_option linter.unusedSimpArgs false
namespace Go.Proofs.Ytbjblchhenmgjaa
open Go.ChangeShapes Go.WideShapes Go.ChangeAt Go.RowKit

def comma (b : Bool) : ByteArray := if b then ⟨#[]⟩ else ⟨#[44]⟩
mutual
def Kind.text : Kind → ByteArray
  | .mk s ns ks => if s = 1 then ⟨#[110, 117, 109]⟩ else if s = 2 then ⟨#[116, 101, 120, 116]⟩ else if s = 3 then ⟨#[102, 108, 97, 103]⟩
    else if s = 4 then ⟨#[91]⟩ ++ Kind.text1 ks ++ ⟨#[93]⟩ else if s = 6 then ⟨#[63]⟩ ++ Kind.text1 ks
    else ⟨#[123]⟩ ++ Kind.textS true ns ks ++ ⟨#[125]⟩
def Kind.text1 : List Kind → ByteArray
  | [] => .empty
  | k :: _ => k.text
def Kind.textS : Bool → List ByteArray → List Kind → ByteArray
  | b, n :: ns, k :: ks => comma b ++ (n ++ ⟨#[58]⟩) ++ k.text ++ Kind.textS false ns ks
  | _, _, _ => .empty
end
theorem Kind.text_eq (k : Kind) : k.text = if k.sort = 1 then ⟨#[110, 117, 109]⟩ else if k.sort = 2 then ⟨#[116, 101, 120, 116]⟩ else if k.sort = 3 then ⟨#[102, 108, 97, 103]⟩
    else if k.sort = 4 then ⟨#[91]⟩ ++ Kind.text1 k.kids ++ ⟨#[93]⟩ else if k.sort = 6 then ⟨#[63]⟩ ++ Kind.text1 k.kids
    else ⟨#[123]⟩ ++ Kind.textS true k.names k.kids ++ ⟨#[125]⟩ := by cases k; rw [Kind.text]; rfl
theorem ba_assoc (a b c : ByteArray) : a ++ b ++ c = a ++ (b ++ c) := ByteArray.append_assoc
theorem ba_nil_app (a : ByteArray) : (⟨#[]⟩ : ByteArray) ++ a = a := ByteArray.empty_append
theorem ba_app_nil (a : ByteArray) : a ++ .empty = a := ByteArray.append_empty
theorem comma_size (b : Bool) : (comma b).size ≤ 1 := by cases b <;> decide

/-- one more name with its schema -/
theorem Kind.textS_snoc : ∀ (ns : List ByteArray) (ks : List Kind) (b : Bool) (j : Nat) (h : j < ns.length) (h' : j < ks.length),
    Kind.textS b (ns.take (j + 1)) (ks.take (j + 1)) = Kind.textS b (ns.take j) (ks.take j) ++ (comma (b && j == 0) ++ (ns[j] ++ ⟨#[58]⟩) ++ ks[j].text)
  | n :: ns, k :: ks, b, 0, _, _ => by
    simp only [List.take_succ_cons, List.take_zero, Kind.textS, List.getElem_cons_zero, ba_app_nil, beq_self_eq_true, Bool.and_true]
    exact (ba_nil_app _).symm
  | n :: ns, k :: ks, b, j + 1, h, h' => by
    have ih := Kind.textS_snoc ns ks false j (by simpa using h) (by simpa using h')
    simp only [List.take_succ_cons, Kind.textS, List.getElem_cons_succ] at ih ⊢
    rw [ih]
    simp [ba_assoc]

theorem Kind.textS_size : ∀ (ns : List ByteArray) (ks : List Kind) (b : Bool), ns.length = ks.length → (∀ i (h : i < ns.length), ns[i].size ≤ 8) → (∀ k ∈ ks, k.text.size + 10 ≤ 14 * k.parts) →
    (Kind.textS b ns ks).size ≤ 14 * Kind.partsS ks
  | [], [], b, _, _, _ => by simp [Kind.textS]
  | n :: ns, k :: ks, b, h, hn, hk => by
    have h1 := Kind.textS_size ns ks false (by simpa using h) (fun i hi => by have := hn (i + 1) (by simpa using hi); simpa using this) (fun x hx => hk x (by simp [hx]))
    have h2 := hk k (by simp)
    have h3 := hn 0 (by simp)
    have h4 := comma_size b
    simp only [List.getElem_cons_zero] at h3
    simp only [Kind.textS, ByteArray.size_append, Kind.partsS]
    have e : (ByteArray.mk #[58]).size = 1 := rfl
    omega
  | [], _ :: _, _, h, _, _ => by simp at h
  | _ :: _, [], _, h, _, _ => by simp at h

theorem Kind.goodS_mem : ∀ (l : List Kind) (lv : Nat), Kind.goodS l lv → ∀ x ∈ l, x.good lv
  | x :: r, lv, h, y, hy => by
    simp only [Kind.goodS] at h
    rcases List.mem_cons.1 hy with rfl | hy
    · exact h.1
    · exact Kind.goodS_mem r lv h.2 y hy

theorem Kind.text_size : ∀ (k : Kind) (lv : Nat), k.good lv → k.text.size + 10 ≤ 14 * k.parts := by
  intro k
  refine Kind.ind (P := fun k => ∀ lv, k.good lv → k.text.size + 10 ≤ 14 * k.parts) (fun k ih => ?_) k
  intro lv h
  have hg := (Kind.good_iff _ _).1 h
  have hp := k.parts_eq
  have hk : ∀ x ∈ k.kids, x.text.size + 10 ≤ 14 * x.parts := fun x hx => ih x hx (lv + 1) (Kind.goodS_mem _ _ hg.2.2 x hx)
  rw [k.text_eq]
  have h1 : k.kids.length = 1 → (Kind.text1 k.kids).size + 10 ≤ 14 * Kind.partsS k.kids := by
    intro hl
    match hh : k.kids, hl with
    | [x], _ =>
      have := hk x (by rw [hh]; simp)
      simp only [Kind.text1, Kind.partsS]
      omega
  have e1 : (ByteArray.mk #[91]).size = 1 := rfl
  have e2 : (ByteArray.mk #[93]).size = 1 := rfl
  have e3 : (ByteArray.mk #[63]).size = 1 := rfl
  have e4 : (ByteArray.mk #[123]).size = 1 := rfl
  have e5 : (ByteArray.mk #[125]).size = 1 := rfl
  have e6 : (ByteArray.mk #[110, 117, 109]).size = 3 := rfl
  have e7 : (ByteArray.mk #[116, 101, 120, 116]).size = 4 := rfl
  have e8 : (ByteArray.mk #[102, 108, 97, 103]).size = 4 := rfl
  split
  · omega
  split
  · omega
  split
  · omega
  split
  · have := h1 (by have := hg.2.1; rcases k.shape_iff.1 this with h | h | h <;> omega)
    simp only [ByteArray.size_append]; omega
  split
  · have := h1 (by have := hg.2.1; rcases k.shape_iff.1 this with h | h | h <;> omega)
    simp only [ByteArray.size_append]; omega
  · have hsh : k.sort = 5 ∧ NamesOk k.names ∧ k.names.length = k.kids.length := by
      rcases k.shape_iff.1 hg.2.1 with h | h | h
      · omega
      · omega
      · exact h
    have := Kind.textS_size k.names k.kids true hsh.2.2 (fun i hi => (hsh.2.1 i hi).1.2.1) hk
    simp only [ByteArray.size_append]; omega
end Go.Proofs.Ytbjblchhenmgjaa
