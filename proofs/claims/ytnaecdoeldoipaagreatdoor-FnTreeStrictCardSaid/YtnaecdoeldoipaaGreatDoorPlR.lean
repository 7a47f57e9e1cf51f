/-
  The text of a plan of a log, as the program reads it: plain.
-/
import Derived.Test.YtnaecdoeldoipaaGreatDoorPlanT
import Derived.Test.YtnaecdoeldoipaaGreatDoorNumR
set_option linter.unusedVariables false
set_option linter.unusedSimpArgs false
namespace Go.Proofs.YtnaecdoeldoipaaGreatDoor
open Go.ChangeShapes Go.WideShapes Go.ChangeAt Go.RowKit

def wSeal : ByteArray := ⟨#[115, 101, 97, 108]⟩
def wOpen : ByteArray := ⟨#[111, 112, 101, 110]⟩
noncomputable def allNums : List ByteArray → Option (List Int)
  | [] => some []
  | s :: l => match numOf s with
    | none => none
    | some z => (allNums l).map (z :: ·)
noncomputable def numsB (word : ByteArray) (many : Nat) (line : ByteArray) : Option (List Int) :=
  @ite _ ((cutB 32 line)[0]? = some word ∧ (cutB 32 line).length = many + 1) (Classical.propDecidable _) (allNums ((cutB 32 line).drop 1)) none
theorem allNums_len : ∀ (l : List ByteArray) (zs : List Int), allNums l = some zs → zs.length = l.length
  | [], zs, h => by
    simp only [allNums] at h
    injection h with h
    rw [← h]
    rfl
  | s :: l, zs, h => by
    simp only [allNums] at h
    split at h
    · cases h
    · cases hl : allNums l with
      | none => rw [hl] at h; cases h
      | some ys =>
        rw [hl] at h
        simp only [Option.map_some] at h
        injection h with h
        rw [← h, List.length_cons, allNums_len l ys hl, List.length_cons]
theorem allNums_decs : ∀ (l : List Int), (∀ z ∈ l, -9223372036854775808 ≤ z ∧ z ≤ 9223372036854775807) → allNums (l.map dec) = some l
  | [], _ => rfl
  | z :: l, h => by
    have hz := h z (by simp)
    rw [List.map_cons, allNums, numOf_dec z hz.1 hz.2]
    simp only
    rw [allNums_decs l (fun y hy => h y (by simp [hy]))]
    rfl
theorem allNums_step (l : List ByteArray) (j : Nat) (zs : List Int) (z : Int) (h : j < l.length) (ha : allNums (l.take j) = some zs) (hz : numOf l[j] = some z) : allNums (l.take (j + 1)) = some (zs ++ [z]) := by
  induction l generalizing j zs with
  | nil => simp at h
  | cons s l ih =>
    cases j with
    | zero =>
      simp only [List.take_zero, allNums] at ha
      injection ha with ha
      subst ha
      simp only [List.getElem_cons_zero] at hz
      simp [allNums, hz]
    | succ j =>
      simp only [List.take_succ_cons, List.getElem_cons_succ] at *
      simp only [allNums] at ha ⊢
      split at ha
      · cases ha
      · rename_i y hy
        cases hl : allNums (l.take j) with
        | none => rw [hl] at ha; cases ha
        | some ys =>
          rw [hl] at ha
          simp only [Option.map_some] at ha
          injection ha with ha
          rw [ih j ys (by simpa using h) hl hz, ← ha]
          rfl
theorem allNums_stop : ∀ (l : List ByteArray) (j : Nat) (h : j < l.length), numOf l[j] = none → allNums l = none
  | s :: l, 0, h, hz => by
    simp only [List.getElem_cons_zero] at hz
    simp [allNums, hz]
  | s :: l, j + 1, h, hz => by
    simp only [List.getElem_cons_succ] at hz
    rw [allNums, allNums_stop l j (by simpa using h) hz]
    split <;> rfl
theorem numsB_len {word line : ByteArray} {many : Nat} {zs : List Int} (h : numsB word many line = some zs) : zs.length = many := by
  unfold numsB at h
  split at h
  · rename_i hc
    rw [allNums_len _ _ h, List.length_drop, hc.2]
    rfl
  · cases h
noncomputable def stepP (p : LogPlan) (line : ByteArray) : LogPlan :=
  match numsB wSeal 4 line with
  | some l => { p with parts := p.parts ++ [⟨l.getD 0 0, l.getD 1 0, l.getD 2 0, l.getD 3 0⟩] }
  | none => match numsB wOpen 2 line with
    | some l => { p with open_ := l.getD 0 0, first := l.getD 1 0 }
    | none => p
noncomputable def foldP (l : List ByteArray) : LogPlan := l.foldl stepP ⟨[], 0, 0⟩
theorem foldP_succ (l : List ByteArray) (j : Nat) (h : j < l.length) : foldP (l.take (j + 1)) = stepP (foldP (l.take j)) l[j] := by
  unfold foldP
  rw [List.take_succ_eq_append_getElem h, List.foldl_append]
  rfl
theorem stepP_len (p : LogPlan) (line : ByteArray) : (stepP p line).parts.length ≤ p.parts.length + 1 := by
  unfold stepP
  split
  · simp
  · split <;> simp
theorem foldP_len (l : List ByteArray) : ∀ j, j ≤ l.length → (foldP (l.take j)).parts.length ≤ j
  | 0, _ => by simp [foldP]
  | j + 1, h => by
    rw [foldP_succ l j (by omega)]
    have h1 := stepP_len (foldP (l.take j)) (l[j]'(by omega))
    have h2 := foldP_len l j (by omega)
    omega
/-! what a plan's text is cut into -/
theorem digits_mem : ∀ (n u : Nat), u ≤ n → ∀ b ∈ Lib.decDigits u, 48 ≤ b.toNat ∧ b.toNat ≤ 57
  | n, u, hn, b, hb => by
    rw [Lib.decDigits] at hb
    split at hb
    · rename_i h
      simp only [List.mem_singleton] at hb
      rw [hb, u8_digit u h]
      omega
    · match n, hn with
      | 0, hn => omega
      | n + 1, hn =>
        have h9 : u % 10 < 10 := Nat.mod_lt _ (by decide)
        rcases List.mem_append.1 hb with hb | hb
        · exact digits_mem n (u / 10) (by omega) b hb
        · simp only [List.mem_singleton] at hb
          rw [hb, u8_digit _ h9]
          omega
theorem dec_mem (z : Int) (b : UInt8) (hb : b ∈ (dec z).data.toList) : b.toNat = 45 ∨ (48 ≤ b.toNat ∧ b.toNat ≤ 57) := by
  rw [dec_bytes] at hb
  unfold Lib.itoa at hb
  split at hb
  · rcases List.mem_cons.1 hb with rfl | hb
    · exact .inl rfl
    · exact .inr (digits_mem _ _ (Nat.le_refl _) b hb)
  · exact .inr (digits_mem _ _ (Nat.le_refl _) b hb)
theorem joined_bytes : ∀ (l : List Int) (w : ByteArray), (joinedText w l).data.toList = w.data.toList ++ l.flatMap (fun z => 32 :: (dec z).data.toList)
  | [], w => by simp [joinedText]
  | z :: l, w => by
    have e : joinedText w (z :: l) = joinedText (w ++ (⟨#[32]⟩ ++ dec z)) l := rfl
    rw [e, joined_bytes l]
    simp [ByteArray.data_append]
theorem glue_words : ∀ (l : List Int) (w : List UInt8), glue 32 (w :: l.map fun z => (dec z).data.toList) = w ++ l.flatMap (fun z => 32 :: (dec z).data.toList)
  | [], w => by simp [glue]
  | z :: l, w => by
    rw [List.map_cons, glue, glue_words l]
    simp
theorem joined_cut (w : ByteArray) (l : List Int) (hw : ∀ b ∈ w.data.toList, b ≠ 32) : cutB 32 (joinedText w l) = w :: l.map dec := by
  apply cutB_glue
  · rw [joined_bytes, List.map_cons, List.map_map]
    exact (glue_words l _).symm
  · intro a ha b hb
    rcases List.mem_cons.1 ha with rfl | ha
    · exact hw b hb
    · obtain ⟨z, _, rfl⟩ := List.mem_map.1 ha
      have := dec_mem z b hb
      intro e
      rw [e] at this
      have e2 : (32 : UInt8).toNat = 32 := rfl
      omega
  · simp
theorem joined_nums (w : ByteArray) (l : List Int) (hw : ∀ b ∈ w.data.toList, b ≠ 32) (hl : ∀ z ∈ l, -9223372036854775808 ≤ z ∧ z ≤ 9223372036854775807) : numsB w l.length (joinedText w l) = some l := by
  unfold numsB
  rw [joined_cut w l hw, if_pos ⟨rfl, by simp⟩, List.drop_succ_cons, List.drop_zero, allNums_decs l hl]
theorem joined_other (w v : ByteArray) (l : List Int) (k : Nat) (hw : ∀ b ∈ w.data.toList, b ≠ 32) (hv : w ≠ v) : numsB v k (joinedText w l) = none := by
  unfold numsB
  rw [joined_cut w l hw, if_neg (fun h => hv (by simpa using h.1))]
theorem seal_ne : wSeal ≠ wOpen := fun h => by
  have := congrArg (fun b => b.data.toList) h
  simp [wSeal, wOpen] at this
theorem seal_no : ∀ b ∈ wSeal.data.toList, b ≠ 32 := by decide
theorem open_no : ∀ b ∈ wOpen.data.toList, b ≠ 32 := by decide
def LogPlan.lines (p : LogPlan) : List ByteArray := p.parts.map (fun x => joinedText wSeal x.nums) ++ [joinedText wOpen [p.open_, p.first], ⟨#[101, 110, 100]⟩, ⟨#[]⟩]
theorem lines_bytes : ∀ (l : List LogPart) (s : ByteArray), (l.foldl (fun s x => s ++ LogPart.line x) s).data.toList = s.data.toList ++ l.flatMap (fun x => (joinedText wSeal x.nums).data.toList ++ [10])
  | [], s => by simp
  | x :: l, s => by
    rw [List.foldl_cons, lines_bytes l]
    have e : x.line = joinedText wSeal x.nums ++ ⟨#[10]⟩ := rfl
    rw [e]
    simp [ByteArray.data_append]
theorem glue_lines : ∀ (l : List LogPart) (t : List (List UInt8)), t ≠ [] → glue 10 (l.map (fun x => (joinedText wSeal x.nums).data.toList) ++ t) = l.flatMap (fun x => (joinedText wSeal x.nums).data.toList ++ [10]) ++ glue 10 t
  | [], t, _ => by simp
  | x :: l, t, ht => by
    have h := glue_lines l t ht
    cases hq : l.map (fun x => (joinedText wSeal x.nums).data.toList) ++ t with
    | nil => simp at hq; exact absurd hq.2 ht
    | cons a q =>
      rw [List.map_cons, List.cons_append, hq, glue, ← hq, h]
      simp
theorem joined_no10 (w : ByteArray) (l : List Int) (hw : ∀ b ∈ w.data.toList, b ≠ 10) : ∀ b ∈ (joinedText w l).data.toList, b ≠ 10 := by
  intro b hb
  rw [joined_bytes] at hb
  rcases List.mem_append.1 hb with hb | hb
  · exact hw b hb
  · obtain ⟨z, _, hz⟩ := List.mem_flatMap.1 hb
    have e2 : (10 : UInt8).toNat = 10 := rfl
    rcases List.mem_cons.1 hz with rfl | hz
    · decide
    · have := dec_mem z b hz
      intro e
      rw [e] at this
      omega
theorem LogPlan.text_cut (p : LogPlan) : cutB 10 p.text = p.lines := by
  apply cutB_glue
  · unfold LogPlan.text partLines LogPlan.lines
    rw [ByteArray.data_append, Array.toList_append, lines_bytes, List.map_append, List.map_map]
    have e := glue_lines p.parts ([joinedText wOpen [p.open_, p.first], (⟨#[101, 110, 100]⟩ : ByteArray), (⟨#[]⟩ : ByteArray)].map (·.data.toList)) (by simp)
    rw [show ((fun x : ByteArray => x.data.toList) ∘ fun x : LogPart => joinedText wSeal x.nums) = fun x : LogPart => (joinedText wSeal x.nums).data.toList from rfl, e]
    unfold LogPlan.last
    have e2 : (joinedText ⟨#[111, 112, 101, 110]⟩ [p.open_, p.first]) = joinedText wOpen [p.open_, p.first] := rfl
    rw [e2]
    simp [glue, ByteArray.data_append]
  · intro a ha
    unfold LogPlan.lines at ha
    rcases List.mem_append.1 ha with ha | ha
    · obtain ⟨x, _, rfl⟩ := List.mem_map.1 ha
      exact joined_no10 _ _ (by decide)
    · simp only [List.mem_cons, List.not_mem_nil, or_false] at ha
      rcases ha with rfl | rfl | rfl
      · exact joined_no10 _ _ (by decide)
      · decide
      · decide
  · simp [LogPlan.lines]
theorem fold_parts : ∀ (l : List LogPart) (p : LogPlan), (∀ x ∈ l, x.small) → (l.map (fun x => joinedText wSeal x.nums)).foldl stepP p = { p with parts := p.parts ++ l }
  | [], p, _ => by simp
  | x :: l, p, h => by
    have hx := h x (by simp)
    have e : stepP p (joinedText wSeal x.nums) = { p with parts := p.parts ++ [x] } := by
      unfold stepP
      have := joined_nums wSeal x.nums seal_no (fun z hz => by have := hx z hz; omega)
      rw [show x.nums.length = 4 from rfl] at this
      rw [this]
      rfl
    rw [List.map_cons, List.foldl_cons, e, fold_parts l _ (fun y hy => h y (by simp [hy]))]
    simp
theorem cut_end : cutB 32 ⟨#[101, 110, 100]⟩ = [⟨#[101, 110, 100]⟩] := cutB_glue 32 _ [⟨#[101, 110, 100]⟩] rfl (by decide) (by simp)
theorem cut_none : cutB 32 ⟨#[]⟩ = [⟨#[]⟩] := cutB_glue 32 _ [⟨#[]⟩] rfl (by decide) (by simp)
theorem step_same (p : LogPlan) (line : ByteArray) (h : (cutB 32 line).length = 1) : stepP p line = p := by
  unfold stepP numsB
  rw [if_neg (fun hh => by have := hh.2; omega), if_neg (fun hh => by have := hh.2; omega)]
theorem read_text (p : LogPlan) (h : p.ok) : foldP (cutB 10 p.text) = p := by
  have hf := p.first_small h
  have ho := h.2.1
  have e : stepP { (⟨[], 0, 0⟩ : LogPlan) with parts := p.parts } (joinedText wOpen [p.open_, p.first]) = p := by
    unfold stepP
    have h1 := joined_nums wOpen [p.open_, p.first] open_no (fun z hz => by
      simp only [List.mem_cons, List.not_mem_nil, or_false] at hz
      rcases hz with rfl | rfl <;> omega)
    rw [joined_other wOpen wSeal _ 4 open_no (Ne.symm seal_ne)]
    rw [show ([p.open_, p.first] : List Int).length = 2 from rfl] at h1
    simp only
    rw [h1]
    rfl
  rw [p.text_cut]
  unfold foldP LogPlan.lines
  rw [List.foldl_append, fold_parts _ _ (fun x hx => by obtain ⟨i, hi, rfl⟩ := List.getElem_of_mem hx; exact p.small h i hi)]
  simp only [List.nil_append, List.foldl_cons, List.foldl_nil]
  rw [e, step_same p _ (by rw [cut_end]; rfl), step_same p _ (by rw [cut_none]; rfl)]
/-- the plan whose text it is -/
noncomputable def readPlan (s : ByteArray) : Option LogPlan := @dite _ (∃ p : LogPlan, p.ok ∧ p.text = s) (Classical.propDecidable _) (fun h => some (Classical.choose h)) (fun _ => none)
theorem readPlan_some {s : ByteArray} {p q : LogPlan} (hq : ∀ r : LogPlan, r.ok → r.text = s → q = r) (h : p.ok ∧ p.text = s) : readPlan s = some q := by
  have hx : ∃ p : LogPlan, p.ok ∧ p.text = s := ⟨p, h⟩
  unfold readPlan
  rw [dif_pos hx]
  have h1 := Classical.choose_spec hx
  rw [hq _ h1.1 h1.2]
theorem readPlan_none {s : ByteArray} (h : ∀ p : LogPlan, p.ok → p.text ≠ s) : readPlan s = none := by
  unfold readPlan
  rw [dif_neg (fun ⟨p, h1, h2⟩ => h p h1 h2)]
def LogPlan.zero : LogPlan := ⟨[], 0, 0⟩
noncomputable def readP (s : ByteArray) : LogPlan := (readPlan s).getD LogPlan.zero
noncomputable def readPB (s : ByteArray) : Bool := (readPlan s).isSome
theorem text_pos (p : LogPlan) : 0 < p.text.size := by
  unfold LogPlan.text LogPlan.last
  have e : (⟨#[10, 101, 110, 100, 10]⟩ : ByteArray).size = 5 := rfl
  simp only [ByteArray.size_append]
  omega
/-- a reader's end: what it read is written again -/
theorem read_yes {s : ByteArray} {q : LogPlan} (hq : ∀ r : LogPlan, r.ok → r.text = s → q = r) (hw : q.write = s) (hs : 0 < s.size) : readP s = q ∧ readPB s = true := by
  have hok : q.ok := by
    refine Classical.byContradiction fun hn => ?_
    unfold LogPlan.write at hw
    rw [if_neg (by rw [tb_false hn]; simp)] at hw
    rw [← hw] at hs
    exact absurd hs (by decide)
  have ht : q.text = s := by
    unfold LogPlan.write at hw
    rwa [if_pos (tb_true hok)] at hw
  have h := readPlan_some hq ⟨hok, ht⟩
  unfold readP readPB
  rw [h]
  exact ⟨rfl, rfl⟩
theorem read_no {s : ByteArray} {q : LogPlan} (hq : ∀ r : LogPlan, r.ok → r.text = s → q = r) (hw : ¬ q.write = s) : readP s = LogPlan.zero ∧ readPB s = false := by
  have h : readPlan s = none := readPlan_none (fun p hp ht => hw (by
    rw [hq p hp ht]
    unfold LogPlan.write
    rw [if_pos (tb_true hp), ht]))
  unfold readP readPB
  rw [h]
  exact ⟨rfl, rfl⟩
theorem read_empty {s : ByteArray} (hs : s.size = 0) : readP s = LogPlan.zero ∧ readPB s = false := by
  have h : readPlan s = none := readPlan_none (fun p _ ht => by
    have := text_pos p
    rw [ht] at this
    omega)
  unfold readP readPB
  rw [h]
  exact ⟨rfl, rfl⟩
end Go.Proofs.YtnaecdoeldoipaaGreatDoor
