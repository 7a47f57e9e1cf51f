/-
  slices.Index and slices.Delete at []string, of the caller's own row.
-/
import Derived.Test.YtdingkbggjehoaaLib
import Derived.Test.YtdingkbggjehoaaTwo
import Derived.Test.YtdingkbggjehoaaDiskM
set_option linter.unusedVariables false
set_option linter.unusedSimpArgs false
namespace Go.Proofs.Ytdingkbggjehoaa
open Go.ChangeShapes Go.WideShapes Go.ChangeAt Go.RowKit

theorem Row.setMid {g : Nat} {e : TypeId} : ∀ (vs pre cs rest : List Value) {w : World}, vs.length = cs.length → Row w g e (pre ++ (cs ++ rest)) → Row (w.setCells g pre.length vs) g e (pre ++ (vs ++ rest))
  | [], pre, [], rest, w, _, h => h
  | [], _, _ :: _, _, _, hl, _ => by simp at hl
  | _ :: _, _, [], _, _, hl, _ => by simp at hl
  | v :: vs, pre, c :: cs, rest, w, hl, h => by
    have h1 := h.set pre.length v
    have e1 : (pre ++ ((c :: cs) ++ rest)).set pre.length v = (pre ++ [v]) ++ (cs ++ rest) := by simp
    rw [e1] at h1
    have h2 := Row.setMid vs (pre ++ [v]) cs rest (by simpa using hl) h1
    simp only [List.length_append, List.length_cons, List.length_nil, List.append_assoc, List.cons_append, List.nil_append] at h2
    exact h2
theorem setCells_grown {w0 : World} {g : Nat} : ∀ (vs : List Value) (i : Nat) {w : World}, w0.grownBy w (some g) → w0.grownBy (w.setCells g i vs) (some g)
  | [], _, _, h => h
  | v :: vs, i, w, h => setCells_grown vs (i + 1) (only_setCell h (.inl rfl) v)
theorem strs_us : ∀ (l : List ByteArray) {us : List Value} {w : World} {fp : List Nat}, OwC w (l.flatMap strC) us fp → us = l.map Value.string ∧ ∀ s ∈ l, s.size ≤ maxLen
  | [], us, w, fp, h => by
    match us, OwC.length _ h with
    | [], _ => exact ⟨rfl, fun s hs => by cases hs⟩
  | s :: r, us, w, fp, h => by
    match us, OwC.length _ h with
    | u :: us, _ =>
      obtain ⟨f1, f2, h1, h2, rfl⟩ := h
      simp only [Ow, okAtom] at h1
      obtain ⟨rfl, h3, rfl⟩ := h1
      obtain ⟨e, h4⟩ := strs_us r h2
      exact ⟨by rw [e]; rfl, fun x hx => by rcases List.mem_cons.1 hx with rfl | hx; exact h3; exact h4 x hx⟩
/-- where an element is, and what is left without it -/
theorem idx_cases (x : ByteArray) : ∀ (l : List ByteArray), (∃ k : Nat, Lib.idxOfS l x = (k : Int) ∧ k < l.length ∧ eraseOne x l = l.eraseIdx k) ∨ (Lib.idxOfS l x = -1 ∧ eraseOne x l = l) := by
  have gen : ∀ (l : List ByteArray) (i : Nat), (∃ k : Nat, Lib.idxFromS l x i = ((i + k : Nat) : Int) ∧ k < l.length ∧ eraseOne x l = l.eraseIdx k) ∨ (Lib.idxFromS l x i = -1 ∧ eraseOne x l = l) := by
    intro l
    induction l with
    | nil => intro i; exact .inr ⟨rfl, rfl⟩
    | cons z l ih =>
      intro i
      by_cases e : z = x
      · subst e
        exact .inl ⟨0, by simp [Lib.idxFromS], by simp, by simp [eraseOne, tb_true]⟩
      · rcases ih (i + 1) with ⟨k, h1, h2, h3⟩ | ⟨h1, h2⟩
        · refine .inl ⟨k + 1, ?_, by simp; exact h2, ?_⟩
          · simp only [Lib.idxFromS, if_neg e, h1]
            congr 1
            omega
          · simp only [eraseOne, tb_false e, List.eraseIdx_cons_succ, h3]
            rfl
        · refine .inr ⟨?_, ?_⟩
          · simp only [Lib.idxFromS, if_neg e, h1]
          · simp only [eraseOne, tb_false e, h2]
            rfl
  intro l
  rcases gen l 0 with ⟨k, h1, h2⟩ | h
  · exact .inl ⟨k, by simpa [Lib.idxOfS] using h1, h2⟩
  · exact .inr h
theorem indexStr_any (l : List ByteArray) (A : Option Addr) (n c : Nat) (fp : List Nat) (x : ByteArray) (w : World) (h : Ow w (.s 1 l.length (l.flatMap strC)) (.slice A n c) fp) :
    Calls Try.prog 174 #[.slice A n c, .string x] w fun e w' => e = .returned (.int .i64 (Lib.idxOfS l x)) ∧ w = w' := by
  obtain ⟨rfl, hc, hm⟩ := h.nlen
  unfold maxLen at hm
  by_cases h0 : l.length = 0
  · obtain rfl : l = [] := List.eq_nil_of_length_eq_zero h0
    exact (Try.slices_Index_string_empty A c x w).mono (fun e w' ⟨he, hw⟩ => ⟨he, hw.symm⟩)
  · obtain ⟨g, off, rfl, _, _, _⟩ := strs_at h (i := 0) (by omega)
    refine (Try.slices_Index_string g off l.length c l x w (Nat.le_refl _) (by omega) (strs_all h)).mono ?_
    rintro e w' ⟨rfl, rfl⟩
    rw [List.take_length]
    exact ⟨rfl, rfl⟩
theorem containsStr_any (l : List ByteArray) (A : Option Addr) (n c : Nat) (fp : List Nat) (x : ByteArray) (w : World) (h : Ow w (.s 1 l.length (l.flatMap strC)) (.slice A n c) fp) :
    Calls Try.prog 126 #[.slice A n c, .string x] w fun e w' => e = .returned (.bool (tb (x ∈ l))) ∧ w = w' := by
  obtain ⟨rfl, hc, hm⟩ := h.nlen
  unfold maxLen at hm
  by_cases h0 : l.length = 0
  · obtain rfl : l = [] := List.eq_nil_of_length_eq_zero h0
    exact (Try.slices_Contains_string_empty A c x w).mono (fun e w' ⟨he, hw⟩ => ⟨by rw [he, tb_false (by simp)], hw.symm⟩)
  · obtain ⟨g, off, rfl, _, _, _⟩ := strs_at h (i := 0) (by omega)
    refine (Try.slices_Contains_string g off l.length c l x w (Nat.le_refl _) (by omega) (strs_all h)).mono ?_
    rintro e w' ⟨rfl, rfl⟩
    rw [List.take_length]
    refine ⟨ret_bool ?_, rfl⟩
    by_cases hx : x ∈ l
    · rw [tb_true hx]; exact (Lib.containsS_iff _ _).2 hx
    · rw [tb_false hx]
      have := fun h => hx ((Lib.containsS_iff l x).1 h)
      simpa using this
theorem enc_str (x : ByteArray) : Go.Proofs.encStr x.data.toList = Value.string x := by
  show Value.string _ = _
  congr
theorem map_strs (l : List ByteArray) : (Lib.strsOf (fun i => l.getD i ByteArray.empty) l.length) = l.map (fun (x : ByteArray) => x.data.toList) := by
  unfold Lib.strsOf
  refine List.ext_getElem (by simp) (fun i h1 h2 => ?_)
  simp only [List.length_map] at h2
  simp [List.getD, h2]
theorem OwS.del {w : World} {B : Nat} {e : TypeId} {A : Option Addr} {c : Nat} {l : List ByteArray} {us : List Value} {fi : List Nat} {k : Nat} (h : OwS w B e 1 strC (.slice A l.length c) l us fi) (hk : k < l.length) :
    Calls Try.prog 175 #[.slice A l.length c, .int .i64 (k : Int), .int .i64 ((k : Int) + 1)] w fun en w' => en = .returned (.slice A (l.length - 1) c) ∧ OwS w' B e 1 strC (.slice A (l.length - 1) c) (l.eraseIdx k) ((l.eraseIdx k).map Value.string) [] ∧ GB w w' (.slice A l.length c) (.slice A (l.length - 1) c) := by
  obtain ⟨rfl, hsz⟩ := strs_us l h.cells
  rcases h.own.2 with ⟨e0, e1⟩ | ⟨g, cap, cur, hv, hB, hg, h1, h2, h3, h4⟩
  · omega
  · injection hv with hv1 hv2 hv3
    subst hv1 hv3
    unfold maxLen at h2
    have hrow : Row w g e cur.toList := by simpa [Row] using hg
    rw [Nat.mul_one] at h4 h3
    have hcur : cur.toList = l.map Value.string ++ cur.toList.drop l.length := by rw [← h4, List.take_append_drop]
    have hcl : cur.toList.length = c := by simpa using h3
    have hcell : ∀ i, i < l.length → w.cell? ⟨g, 0 + i, none⟩ = some (.string (l.getD i ByteArray.empty)) := fun i hi => by
      rw [Nat.zero_add, hrow.cell, hcur, List.getElem?_append_left (by rw [List.length_map]; exact hi), List.getElem?_map]
      simp [List.getD, hi]
    have hcast : ((k : Int) + 1) = ((k + 1 : Nat) : Int) := by omega
    rw [hcast]
    refine (Try.slices_Delete_string_cells g 0 l.length c k (k + 1) (fun i => l.getD i ByteArray.empty) w h1 h2 (by omega) (by omega) hcell (fun j _ => hrow.frozen _)).mono ?_
    rintro en w' ⟨rfl, q, rfl⟩
    have hd : k + 1 - k = 1 := by omega
    rw [hd, map_strs]
    obtain ⟨vs, hvs⟩ : ∃ vs, ((l.map (fun (x : ByteArray) => x.data.toList)).take k ++ (l.map (fun (x : ByteArray) => x.data.toList)).drop (k + 1) ++ List.replicate 1 []).map Go.Proofs.encStr = vs := ⟨_, rfl⟩
    have hvs2 : vs = (l.eraseIdx k).map Value.string ++ [Go.Proofs.encStr []] := by
      rw [← hvs, ← List.map_take, ← List.map_drop, ← List.map_append, List.map_append, List.map_map, ← List.eraseIdx_eq_take_drop_succ]
      congr 1
    have hel : (l.eraseIdx k).length = l.length - 1 := by rw [List.length_eraseIdx, if_pos hk]
    have hvl : vs.length = (l.map Value.string).length := by
      rw [hvs2, List.length_append, List.length_map, List.length_map, hel]
      simp
      omega
    rw [hvs]
    have hrow2 : Row ((w.drewN q).setCells g 0 vs) g e (vs ++ cur.toList.drop l.length) := by
      have hr := hrow.drewN q
      rw [hcur] at hr
      have h5 := Row.setMid vs [] (l.map Value.string) (cur.toList.drop l.length) hvl (w := w.drewN q) (by simpa using hr)
      simpa using h5
    refine ⟨rfl, ⟨⟨by rw [List.length_map]; omega, .inr ⟨g, c, (vs ++ cur.toList.drop l.length).toArray, by rw [hel], hB, ?_, by rw [hel]; omega, h2, ?_, ?_⟩⟩, ?_, New.nil _ _, fun _ _ => by simp⟩, ?_⟩
    · exact hrow2
    · simp only [List.size_toArray, List.length_append, hvl, List.length_map, List.length_drop, hcl]
      omega
    · rw [hel, hvs2]
      simp only [Nat.mul_one, List.append_assoc]
      rw [List.take_append_of_le_length (by rw [List.length_map]; omega), List.take_of_length_le (by rw [List.length_map]; omega)]
    · exact strs_cells _ (fun s hs => hsz s (List.mem_of_mem_eraseIdx hs)) _
    · exact ⟨setCells_grown vs 0 (w0 := w) (w := w.drewN q) ⟨rfl, rfl, rfl, Nat.le_refl _, fun _ _ _ => rfl⟩, .inl rfl⟩
end Go.Proofs.Ytdingkbggjehoaa
