/-
  When a schema fits into another one: plain definitions; the place of a name among names in order.
-/
import Derived.Test.YtdingkbggjehoaaKid
import Derived.Test.YtdingkbggjehoaaTxt
import Derived.Test.YtdingkbggjehoaaSearch
import Derived.Sort.Walk0
set_option linter.unusedVariables false
set_option linter.unusedSimpArgs false
namespace Go.Proofs.Ytdingkbggjehoaa
open Go.ChangeShapes Go.WideShapes Go.ChangeAt Go.RowKit

theorem less_trans {a b c : List UInt8} (h : Op.bytesLess a b = true) (k : Op.bytesLess b c = true) : Op.bytesLess a c = true := by
  rw [Go.Proofs.bytesLess_eq, decide_eq_true_eq] at *
  exact List.lt_trans h k
theorem less_irrefl (a : List UInt8) : Op.bytesLess a a = false := by
  rw [Go.Proofs.bytesLess_eq, decide_eq_false_iff_not]
  exact List.lt_irrefl a
theorem names_lt {l : List ByteArray} (hn : NamesOk l) : ∀ (j i : Nat) (hj : j < l.length) (hi : i < j), Op.bytesLess (l[i]'(by omega)).toList l[j].toList = true
  | 0, i, _, hi => absurd hi (by omega)
  | j + 1, i, hj, hi => by
    have h1 := (hn (j + 1) hj).2 (by omega)
    simp only [Nat.add_sub_cancel] at h1
    by_cases e : i < j
    · exact less_trans (names_lt hn j i (by omega) e) h1
    · obtain rfl : i = j := by omega
      exact h1
theorem names_inj {l : List ByteArray} (hn : NamesOk l) {i j : Nat} (hi : i < l.length) (hj : j < l.length) (h : l[i] = l[j]) : i = j := by
  rcases Nat.lt_trichotomy i j with e | e | e
  · have := names_lt hn j i hj e
    rw [h, less_irrefl] at this
    cases this
  · exact e
  · have := names_lt hn i j hi e
    rw [h, less_irrefl] at this
    cases this
theorem names_nodup {l : List ByteArray} (hn : NamesOk l) : l.Nodup := by
  refine List.pairwise_iff_getElem.2 (fun i j hi hj hij e => ?_)
  have := names_inj hn hi hj e
  omega

/-- the place where the search ends -/
theorem search_place {l : List ByteArray} (hn : NamesOk l) (x : ByteArray) (Sx : Nat → ByteArray) (hS : ∀ j (h : j < l.length), Sx j = l[j]) (hS' : ∀ j, l.length ≤ j → Sx j = x) :
    ∃ k, k ≤ l.length ∧ (∀ t, t < k → Op.bytesLess (Sx t).toList x.toList = true) ∧ (∀ t, k ≤ t → Op.bytesLess (Sx t).toList x.toList = false) := by
  have hm : ∀ m, m ≤ l.length → ∃ k, k ≤ m ∧ (∀ t, t < k → Op.bytesLess (Sx t).toList x.toList = true) ∧ (k = m ∨ Op.bytesLess (Sx k).toList x.toList = false) := by
    intro m
    induction m with
    | zero => exact fun _ => ⟨0, Nat.le_refl _, fun t h => absurd h (by omega), .inl rfl⟩
    | succ m ih =>
      intro hml
      obtain ⟨k, h1, h2, h3⟩ := ih (by omega)
      rcases h3 with rfl | h3
      · cases hb : Op.bytesLess (Sx k).toList x.toList with
        | true => exact ⟨k + 1, Nat.le_refl _, fun t ht => by
            by_cases e : t < k
            · exact h2 t e
            · obtain rfl : t = k := by omega
              exact hb, .inl rfl⟩
        | false => exact ⟨k, by omega, h2, .inr hb⟩
      · exact ⟨k, by omega, h2, .inr h3⟩
  obtain ⟨k, h1, h2, h3⟩ := hm l.length (Nat.le_refl _)
  refine ⟨k, h1, h2, fun t ht => ?_⟩
  by_cases hl : t < l.length
  · rcases h3 with h3 | h3
    · omega
    · by_cases e : t = k
      · subst e; exact h3
      · have hlt := names_lt hn t k hl (by omega)
        cases hb : Op.bytesLess (Sx t).toList x.toList with
        | false => rfl
        | true =>
          rw [hS t hl] at hb
          rw [hS k (by omega)] at h3
          rw [less_trans hlt hb] at h3
          cases h3
  · rw [hS' t (by omega), less_irrefl]

theorem bsName_any (l : List ByteArray) (A : Option Addr) (n c : Nat) (fp : List Nat) (x : ByteArray) (w : World) (hn : NamesOk l) (h : Ow w (.s 1 l.length (l.flatMap strC)) (.slice A n c) fp) (hlen : l.length ≤ 1048576) :
    Calls Try.prog 157 #[.slice A n c, .string x] w fun e w' =>
      (∃ k : Nat, e = .returned (.tuple #[.int .i64 (k : Int), .bool (tb (x ∈ l))]) ∧ (x ∈ l → ∃ h : k < l.length, l[k] = x)) ∧ ∃ q, w' = w.drewN q := by
  obtain ⟨rfl, hc, hm⟩ := h.nlen
  by_cases h0 : l.length = 0
  · have hl0 := List.eq_nil_of_length_eq_zero h0
    subst hl0
    have HT := hide (tb_false (p := x ∈ ([] : List ByteArray)) (fun hx => by cases hx))
    have hno := hide (fun hx : x ∈ ([] : List ByteArray) => show False from by cases hx)
    simp only [List.length_nil] at hc ⊢
    clear h0 h hc hm
    go_enter Try.func157, Try.ntmps157
    go_wp2
    go_loopw [7, 8] (fun i j wr => i = .int .i64 0 ∧ j = .int .i64 0 ∧ wr = w) (fun _ _ _ => 0)
    case atStart => exact ⟨rfl, rfl, rfl⟩
    case round =>
      obtain ⟨rfl, rfl, rfl⟩ := hrel
      go_wp2
      go_ret2
      exact ⟨⟨0, by rw [HT.out]; rfl, fun hx => (hno.out hx).elim⟩, 0, rfl⟩
  · obtain ⟨g, off, rfl, _, _, _⟩ := strs_at h (i := 0) (by omega)
    let Sx : Nat → ByteArray := fun j => if h : j < l.length then l[j] else x
    have hS : ∀ j (h : j < l.length), Sx j = l[j] := fun j h => by simp [Sx, h]
    have hS' : ∀ j, l.length ≤ j → Sx j = x := fun j h => by simp [Sx, show ¬ j < l.length by omega]
    obtain ⟨k, hk, h1, h2⟩ := search_place hn x Sx hS hS'
    unfold maxLen at hm
    refine (bsearch_any g off l.length c Sx x w (by omega) (fun j hj => by
      obtain ⟨_, _, e, _, hcell, _⟩ := strs_at h hj
      injection e with e
      injection e with e1 e2
      subst e1 e2
      rw [hS j hj]
      exact hcell)).mono ?_
    rintro e w' ⟨rfl, hq⟩
    rw [Lib.bsGo_spec _ k h1 h2 _ _ _ (by omega) (Nat.zero_le _) hk]
    refine ⟨⟨k, ?_, fun hx => ?_⟩, hq⟩
    · have e0 : decide (k < l.length ∧ Sx k = x) = tb (x ∈ l) := by
       by_cases hx : x ∈ l
       · rw [tb_true hx, decide_eq_true_eq]
         obtain ⟨i, hi, rfl⟩ := List.getElem_of_mem hx
         have e1 : ¬ i < k := fun hlt => by
           have := h1 i hlt
           rw [hS i hi, less_irrefl] at this
           cases this
         have e2 : ¬ k < i := fun hlt => by
           have := h2 k (Nat.le_refl _)
           rw [hS k (by omega), names_lt hn i k hi hlt] at this
           cases this
         obtain rfl : i = k := by omega
         exact ⟨hi, hS i hi⟩
       · rw [tb_false hx, decide_eq_false_iff_not]
         rintro ⟨a, b⟩
         rw [hS k a] at b
         exact hx (b ▸ List.getElem_mem a)
      rw [e0]
    · obtain ⟨i, hi, rfl⟩ := List.getElem_of_mem hx
      have e1 : ¬ i < k := fun hlt => by
        have := h1 i hlt
        rw [hS i hi, less_irrefl] at this
        cases this
      have e2 : ¬ k < i := fun hlt => by
        have := h2 k (Nat.le_refl _)
        rw [hS k (by omega), names_lt hn i k hi hlt] at this
        cases this
      obtain rfl : i = k := by omega
      exact ⟨hi, rfl⟩

theorem Kind.kid_lt {k : Kind} {i : Nat} (h : i < k.kids.length) : SizeOf.sizeOf k.kids[i] < SizeOf.sizeOf k := by
  have h1 := List.sizeOf_lt_of_mem (List.getElem_mem h)
  obtain ⟨s, ns, ks⟩ := k
  simp only [Kind.kids] at h1 ⊢
  simp only [Kind.mk.sizeOf_spec]
  omega
/-- 'to' can take what 'fr' describes -/
def Kind.fit (to fr : Kind) : Prop :=
  (to.sort = 6 → ∀ h : 0 < to.kids.length, (fr.sort = 6 → ∀ h' : 0 < fr.kids.length, Kind.fit to.kids[0] fr.kids[0]) ∧ (fr.sort ≠ 6 → Kind.fit to.kids[0] fr)) ∧
  (to.sort ≠ 6 → fr.sort = to.sort ∧
    (to.sort = 4 → ∀ (h : 0 < to.kids.length) (h' : 0 < fr.kids.length), Kind.fit to.kids[0] fr.kids[0]) ∧
    (to.sort ≠ 4 → (∀ i (h : i < to.kids.length) (h2 : i < to.names.length), (∀ k (h' : k < fr.kids.length) (h3 : k < fr.names.length), fr.names[k] = to.names[i] → Kind.fit to.kids[i] fr.kids[k]) ∧ (to.names[i] ∉ fr.names → to.kids[i].sort = 6)) ∧ ∀ x ∈ fr.names, x ∈ to.names))
termination_by SizeOf.sizeOf to
decreasing_by all_goals exact Kind.kid_lt _
theorem Kind.fit_iff (to fr : Kind) : to.fit fr ↔
  (to.sort = 6 → ∀ h : 0 < to.kids.length, (fr.sort = 6 → ∀ h' : 0 < fr.kids.length, Kind.fit to.kids[0] fr.kids[0]) ∧ (fr.sort ≠ 6 → Kind.fit to.kids[0] fr)) ∧
  (to.sort ≠ 6 → fr.sort = to.sort ∧
    (to.sort = 4 → ∀ (h : 0 < to.kids.length) (h' : 0 < fr.kids.length), Kind.fit to.kids[0] fr.kids[0]) ∧
    (to.sort ≠ 4 → (∀ i (h : i < to.kids.length) (h2 : i < to.names.length), (∀ k (h' : k < fr.kids.length) (h3 : k < fr.names.length), fr.names[k] = to.names[i] → Kind.fit to.kids[i] fr.kids[k]) ∧ (to.names[i] ∉ fr.names → to.kids[i].sort = 6)) ∧ ∀ x ∈ fr.names, x ∈ to.names)) := by
  rw [Kind.fit]

theorem nodup_le : ∀ {l m : List ByteArray}, l.Nodup → (∀ x ∈ l, x ∈ m) → l.length ≤ m.length
  | [], _, _, _ => Nat.zero_le _
  | x :: l, m, hn, hs => by
    have hx := hs x (by simp)
    obtain ⟨h1, h2⟩ := List.nodup_cons.1 hn
    obtain ⟨a, b, rfl⟩ := List.append_of_mem hx
    have := nodup_le (m := a ++ b) h2 (fun y hy => by
      have hm := hs y (by simp [hy])
      have hne : y ≠ x := fun e => h1 (e ▸ hy)
      rcases List.mem_append.1 hm with hm | hm
      · exact List.mem_append_left _ hm
      · rcases List.mem_cons.1 hm with hm | hm
        · exact absurd hm hne
        · exact List.mem_append_right _ hm)
    simp only [List.length_append, List.length_cons] at this ⊢
    omega
theorem many_iff {l m : List ByteArray} (hl : NamesOk l) (hm : NamesOk m) : (l.filter (fun x => tb (x ∈ m))).length = m.length ↔ ∀ x ∈ m, x ∈ l := by
  have n1 : (l.filter (fun x => tb (x ∈ m))).Nodup := (names_nodup hl).filter _
  have n2 := names_nodup hm
  have hin : ∀ x, x ∈ l.filter (fun x => tb (x ∈ m)) ↔ x ∈ l ∧ x ∈ m := fun x => by
    rw [List.mem_filter]
    unfold tb
    simp
  constructor
  · intro h x hx
    refine Classical.byContradiction (fun hxl => ?_)
    have := nodup_le (l := x :: l.filter (fun x => tb (x ∈ m))) (m := m) (List.nodup_cons.2 ⟨fun h => hxl ((hin x).1 h).1, n1⟩) (fun y hy => by
      rcases List.mem_cons.1 hy with rfl | hy
      · exact hx
      · exact ((hin y).1 hy).2)
    simp only [List.length_cons] at this
    omega
  · intro h
    have h1 := nodup_le n1 (m := m) (fun x hx => ((hin x).1 hx).2)
    have h2 := nodup_le n2 (m := l.filter (fun x => tb (x ∈ m))) (fun x hx => (hin x).2 ⟨h x hx, hx⟩)
    omega
end Go.Proofs.Ytdingkbggjehoaa
