/-
  No shorter beginning of a plan's text is a plan's text; its size: plain.
-/
import Derived.Test.YtknlnndocamcmaaDoorPlR
set_option linter.unusedVariables false
set_option linter.unusedSimpArgs false
namespace Go.Proofs.YtknlnndocamcmaaDoor
open Go.ChangeShapes Go.WideShapes Go.ChangeAt Go.RowKit

theorem joined_no (c : UInt8) (h32 : c ≠ 32) (hc : c.toNat ≠ 45 ∧ ¬ (48 ≤ c.toNat ∧ c.toNat ≤ 57)) (w : ByteArray) (l : List Int) (hw : ∀ b ∈ w.data.toList, b ≠ c) : ∀ b ∈ (joinedText w l).data.toList, b ≠ c := by
  intro b hb
  rw [joined_bytes] at hb
  rcases List.mem_append.1 hb with hb | hb
  · exact hw b hb
  · obtain ⟨z, _, hz⟩ := List.mem_flatMap.1 hb
    rcases List.mem_cons.1 hz with rfl | hz
    · exact fun e => h32 e.symm
    · have := dec_mem z b hz
      intro e
      rw [e] at this
      omega
theorem LogPlan.text_end (p : LogPlan) : ∃ pre, p.text.data.toList = pre ++ [100, 10] ∧ ∀ b ∈ pre, b ≠ 100 := by
  refine ⟨p.parts.flatMap (fun x => (joinedText wSeal x.nums).data.toList ++ [10]) ++ ((joinedText wOpen [p.open_, p.first]).data.toList ++ [10, 101, 110]), ?_, ?_⟩
  · unfold LogPlan.text partLines LogPlan.last
    rw [ByteArray.data_append, Array.toList_append, lines_bytes]
    have e2 : (joinedText ⟨#[111, 112, 101, 110]⟩ [p.open_, p.first]) = joinedText wOpen [p.open_, p.first] := rfl
    rw [e2]
    simp [ByteArray.data_append]
  · intro b hb
    rcases List.mem_append.1 hb with hb | hb
    · obtain ⟨x, _, hx⟩ := List.mem_flatMap.1 hb
      rcases List.mem_append.1 hx with hx | hx
      · exact joined_no 100 (by decide) (by decide) _ _ (by decide) b hx
      · simp only [List.mem_singleton] at hx
        rw [hx]
        decide
    · rcases List.mem_append.1 hb with hb | hb
      · exact joined_no 100 (by decide) (by decide) _ _ (by decide) b hb
      · simp only [List.mem_cons, List.not_mem_nil, or_false] at hb
        rcases hb with rfl | rfl | rfl <;> decide
theorem text_prefix (p q : LogPlan) (n : Nat) (hn : n < p.text.data.toList.length) (h : q.text.data.toList = p.text.data.toList.take n) : False := by
  obtain ⟨a, ha, ha0⟩ := p.text_end
  obtain ⟨b, hb, hb0⟩ := q.text_end
  rw [ha] at h hn
  rw [hb] at h
  have hl := congrArg List.length h
  simp only [List.length_append, List.length_cons, List.length_nil, List.length_take] at hl hn
  by_cases hc : n ≤ a.length
  · rw [List.take_append_of_le_length hc] at h
    have h1 : (100 : UInt8) ∈ a.take n := by rw [← h]; simp
    exact ha0 _ (List.mem_of_mem_take h1) rfl
  · have hn1 : n = a.length + 1 := by omega
    subst hn1
    have h2 : (a ++ [100, 10] : List UInt8).take (a.length + 1) = a ++ [100] := by
      rw [List.take_append]
      simp [List.take_of_length_le]
    rw [h2] at h
    have h3 := congrArg List.getLast? h
    simp at h3
theorem readPB_cut (p : LogPlan) (n : Nat) (hn : n < p.text.size) : readPB (p.text.extract 0 n) = false := by
  have h : readPlan (p.text.extract 0 n) = none := readPlan_none (fun q _ ht => by
    refine text_prefix p q n (show n < p.text.data.toList.length from by rw [Array.length_toList]; exact hn) ?_
    rw [ht, Lib.extract_data]
    simp)
  unfold readPB
  rw [h]
  rfl
theorem plLines_size : ∀ (l : List LogPart) (s : ByteArray), (∀ x ∈ l, x.small) → (l.foldl (fun s x => s ++ LogPart.line x) s).size ≤ s.size + 89 * l.length
  | [], s, _ => by simp
  | x :: l, s, h => by
    have h1 := plLines_size l (s ++ x.line) (fun y hy => h y (List.mem_cons_of_mem _ hy))
    have h2 := joinedText_size x.nums ⟨#[115, 101, 97, 108]⟩ (fun n hn => by have := h x (List.mem_cons_self ..) n hn; omega)
    have e1 : (⟨#[115, 101, 97, 108]⟩ : ByteArray).size = 4 := rfl
    have e2 : (⟨#[10]⟩ : ByteArray).size = 1 := rfl
    have e3 : x.nums.length = 4 := rfl
    have e4 : x.line.size = (joinedText ⟨#[115, 101, 97, 108]⟩ x.nums).size + 1 := by unfold LogPart.line; rw [ByteArray.size_append, e2]
    rw [List.foldl_cons, List.length_cons]
    rw [ByteArray.size_append, e4] at h1
    omega
theorem LogPlan.text_size (p : LogPlan) (h : p.ok) : p.text.size ≤ 4000 := by
  have h1 := plLines_size p.parts .empty (fun x hx => by obtain ⟨i, hi, rfl⟩ := List.getElem_of_mem hx; exact p.small h i hi)
  have hf := p.first_small h
  have ho := h.2.1
  have h2 := joinedText_size [p.open_, p.first] ⟨#[111, 112, 101, 110]⟩ (fun z hz => by
    simp only [List.mem_cons, List.not_mem_nil, or_false] at hz
    rcases hz with rfl | rfl <;> omega)
  have h3 := h.1
  have e1 : (⟨#[111, 112, 101, 110]⟩ : ByteArray).size = 4 := rfl
  have e2 : (⟨#[10, 101, 110, 100, 10]⟩ : ByteArray).size = 5 := rfl
  have e3 : (ByteArray.empty).size = 0 := rfl
  unfold LogPlan.text partLines LogPlan.last
  rw [ByteArray.size_append, ByteArray.size_append, e2]
  simp only [List.length_cons, List.length_nil] at h2
  omega
/-- what is read of the text of a plan that is ok -/
theorem read_ok (p : LogPlan) (h : p.ok) : readP p.text = p ∧ readPB p.text = true := by
  have hq : ∀ r : LogPlan, r.ok → r.text = p.text → p = r := fun r hr ht => by rw [← read_text p h, ← ht, read_text r hr]
  have hw : p.write = p.text := by unfold LogPlan.write; rw [if_pos (tb_true h)]
  exact read_yes hq hw (text_pos p)
end Go.Proofs.YtknlnndocamcmaaDoor
