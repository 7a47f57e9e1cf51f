/-
  A number is read back from its decimals; a text is cut at a byte: plain. The text of a plan of a log, as the program reads it: plain. The text of a plan of a log, as the reference reads it: plain.
-/
import Derived.Lib.AtoiAllCases
import Derived.Lib.SplitLaws
import Derived.Test.YtddjgbhkfdpffaaGreatDoorWPlanT
set_option linter.unusedVariables false
set_option linter.unusedSimpArgs false
namespace Go.Proofs.YtddjgbhkfdpffaaGreatDoor
open Go.ChangeShapes Go.WideShapes Go.ChangeAt Go.RowKit

theorem parse_app : ∀ (l r : List UInt8) (a b : Nat), Lib.parseUint10 a l = .ok b → Lib.parseUint10 a (l ++ r) = Lib.parseUint10 b r
  | [], r, a, b, h => by
    simp only [Lib.parseUint10] at h
    injection h with h
    rw [List.nil_append, h]
  | c :: l, r, a, b, h => by
    simp only [Lib.parseUint10, List.cons_append] at h ⊢
    split at h
    · rename_i h1
      rw [if_pos h1]
      split at h
      · cases h
      · rename_i h2
        rw [if_neg h2]
        split at h
        · cases h
        · rename_i h3
          rw [if_neg h3]
          exact parse_app l r _ b h
    · cases h
theorem u8_digit (d : Nat) (h : d < 10) : (UInt8.ofNat (48 + d)).toNat = 48 + d := by
  rw [UInt8.toNat_ofNat']
  omega
theorem parse_digits : ∀ (n u : Nat), u ≤ n → u < 18446744073709551616 → Lib.parseUint10 0 (Lib.decDigits u) = .ok u
  | n, u, hn, hu => by
    rw [Lib.decDigits]
    split
    · rename_i h
      simp only [Lib.parseUint10, u8_digit u h]
      rw [if_pos (by omega), if_neg (by omega), if_neg (by omega)]
      congr 1
      omega
    · rename_i h
      match n, hn with
      | 0, hn => omega
      | n + 1, hn =>
        rw [parse_app _ _ _ _ (parse_digits n (u / 10) (by omega) (by omega))]
        have h9 : u % 10 < 10 := Nat.mod_lt _ (by decide)
        simp only [Lib.parseUint10, u8_digit _ h9]
        rw [if_pos (by omega), if_neg (by omega), if_neg (by omega)]
        congr 1
        omega
theorem digits_first : ∀ (n u : Nat), u ≤ n → ∃ d r, d < 10 ∧ Lib.decDigits u = UInt8.ofNat (48 + d) :: r
  | n, u, hn => by
    rw [Lib.decDigits]
    split
    · rename_i h
      exact ⟨u, [], h, rfl⟩
    · match n, hn with
      | 0, hn => omega
      | n + 1, hn =>
        obtain ⟨d, r, hd, e⟩ := digits_first n (u / 10) (by omega)
        exact ⟨d, r ++ [UInt8.ofNat (48 + u % 10)], hd, by rw [e, List.cons_append]⟩
theorem dec_bytes (z : Int) : (dec z).data.toList = Lib.itoa z := by simp [dec]
theorem atoi_dec (z : Int) (h0 : -9223372036854775808 ≤ z) (h1 : z ≤ 9223372036854775807) : Lib.atoiAll (dec z).data.toList = .ok z := by
  rw [dec_bytes]
  unfold Lib.itoa
  split
  · rename_i h
    obtain ⟨d, r, hd, e⟩ := digits_first _ z.natAbs (Nat.le_refl _)
    rw [Lib.atoiAll_minus]
    unfold Lib.parseMag
    rw [if_neg (by rw [e]; simp), parse_digits _ z.natAbs (Nat.le_refl _) (by omega)]
    unfold Lib.signed
    simp only
    rw [if_neg (by omega)]
    congr 1
    omega
  · rename_i h
    have hp := parse_digits _ z.toNat (Nat.le_refl _) (by omega)
    obtain ⟨d, r, hd, e⟩ := digits_first _ z.toNat (Nat.le_refl _)
    rw [e] at hp ⊢
    rw [Lib.atoiAll_plain _ _ (by rw [u8_digit d hd]; omega) (by rw [u8_digit d hd]; omega)]
    unfold Lib.parseMag
    rw [if_neg (by simp), hp]
    unfold Lib.signless
    simp only
    rw [if_neg (by omega)]
    congr 1
    omega
/-- the number whose decimals a text is -/
def DecOf (s : ByteArray) (z : Int) : Prop := -9223372036854775808 ≤ z ∧ z ≤ 9223372036854775807 ∧ dec z = s
theorem DecOf.atoi {s : ByteArray} {z : Int} (h : DecOf s z) : Lib.atoiAll s.data.toList = .ok z := by
  rw [← h.2.2]
  exact atoi_dec z h.1 h.2.1
noncomputable def numOf (s : ByteArray) : Option Int := @dite _ (∃ z, DecOf s z) (Classical.propDecidable _) (fun h => some (Classical.choose h)) (fun _ => none)
theorem numOf_some {s : ByteArray} {z : Int} (h : DecOf s z) : numOf s = some z := by
  have hx : ∃ z, DecOf s z := ⟨z, h⟩
  unfold numOf
  rw [dif_pos hx]
  have h1 := (Classical.choose_spec hx).atoi
  rw [h.atoi] at h1
  injection h1 with h1
  rw [← h1]
theorem numOf_none {s : ByteArray} (h : ∀ z, ¬ DecOf s z) : numOf s = none := by
  unfold numOf
  rw [dif_neg (fun ⟨z, hz⟩ => h z hz)]
theorem numOf_dec (z : Int) (h0 : -9223372036854775808 ≤ z) (h1 : z ≤ 9223372036854775807) : numOf (dec z) = some z := numOf_some ⟨h0, h1, rfl⟩
theorem numOf_wf {s : ByteArray} {z : Int} (h : numOf s = some z) : DecOf s z := by
  unfold numOf at h
  split at h
  · rename_i hx
    injection h with h
    rw [← h]
    exact Classical.choose_spec hx
  · cases h
/-! cutting at one byte -/
theorem index_skip (c : UInt8) : ∀ (a r : List UInt8), (∀ b ∈ a, b ≠ c) → Lib.index (a ++ c :: r) [c] = (a.length : Int)
  | [], r, _ => by simp [Lib.index]
  | b :: a, r, h => by
    have hb := h b (by simp)
    have ih := index_skip c a r (fun x hx => h x (by simp [hx]))
    have e : ([c].isPrefixOf (b :: (a ++ c :: r))) = false := by
      simp [List.isPrefixOf, Ne.symm hb]
    rw [List.cons_append, Lib.index, if_neg (by rw [e]; simp), ih, if_neg (by simp)]
    simp
theorem splitK_hit (c : UInt8) (k : Nat) (a r : List UInt8) (h : ∀ b ∈ a, b ≠ c) : Lib.splitK [c] 0 (k + 1) (a ++ c :: r) = a :: Lib.splitK [c] 0 k r := by
  rw [Lib.splitK, index_skip c a r h, if_neg (by simp)]
  congr 1
  · simp
  · congr 1
    simp
/-- what a list of pieces is, put together with one byte between -/
def glue (c : UInt8) : List (List UInt8) → List UInt8
  | [] => []
  | [a] => a
  | a :: b :: l => a ++ c :: glue c (b :: l)
theorem glue_count (c : UInt8) : ∀ (l : List (List UInt8)), (∀ a ∈ l, ∀ b ∈ a, b ≠ c) → l ≠ [] → (glue c l).count c + 1 = l.length
  | [], _, h => absurd rfl h
  | [a], h, _ => by
    have : a.count c = 0 := List.count_eq_zero.2 (fun hm => h a (by simp) c hm rfl)
    simp [glue, this]
  | a :: b :: l, h, _ => by
    have : a.count c = 0 := List.count_eq_zero.2 (fun hm => h a (by simp) c hm rfl)
    have ih := glue_count c (b :: l) (fun x hx => h x (by simp [hx])) (by simp)
    simp only [glue, List.count_append, List.count_cons_self, List.length_cons] at ih ⊢
    omega
theorem glue_split (c : UInt8) : ∀ (l : List (List UInt8)) (k : Nat), (∀ a ∈ l, ∀ b ∈ a, b ≠ c) → l.length = k + 1 → Lib.splitK [c] 0 k (glue c l) = l
  | [], k, _, h => by simp at h
  | [a], k, h, hk => by
    obtain rfl : k = 0 := by simpa using hk.symm
    rfl
  | a :: b :: l, k, h, hk => by
    obtain ⟨m, rfl⟩ : ∃ m, k = m + 1 := ⟨k - 1, by simp at hk; omega⟩
    rw [glue, splitK_hit c m a _ (h a (by simp)), glue_split c (b :: l) m (fun x hx => h x (by simp [hx])) (by simpa using hk)]
def cutB (c : UInt8) (s : ByteArray) : List ByteArray := Lib.splitB ⟨#[c]⟩ 0 (Lib.countB s ⟨#[c]⟩) s
theorem bytes_inj {a b : ByteArray} (h : a.data.toList = b.data.toList) : a = b := by
  apply ByteArray.ext
  apply Array.ext'
  exact h
theorem map_bytes_inj : ∀ {a b : List ByteArray}, a.map (·.data.toList) = b.map (·.data.toList) → a = b
  | [], [], _ => rfl
  | [], y :: b, h => by simp at h
  | x :: a, [], h => by simp at h
  | x :: a, y :: b, h => by
    simp only [List.map_cons, List.cons.injEq] at h
    rw [bytes_inj h.1, map_bytes_inj h.2]
theorem cutB_glue (c : UInt8) (s : ByteArray) (l : List ByteArray) (hs : s.data.toList = glue c (l.map (·.data.toList))) (h : ∀ a ∈ l, ∀ b ∈ a.data.toList, b ≠ c) (h0 : l ≠ []) : cutB c s = l := by
  apply map_bytes_inj
  have hc : Lib.countB s ⟨#[c]⟩ = s.data.toList.count c := Lib.count_one c _
  have hh : ∀ a ∈ l.map (·.data.toList), ∀ b ∈ a, b ≠ c := fun a ha b hb => by
    obtain ⟨x, hx, rfl⟩ := List.mem_map.1 ha
    exact h x hx b hb
  have h1 := glue_count c (l.map (·.data.toList)) hh (by simpa using h0)
  unfold cutB
  rw [Lib.splitB_data, hc]
  show Lib.splitK [c] 0 _ _ = _
  rw [hs] at *
  exact glue_split c _ _ hh (by rw [List.length_map] at h1 ⊢; omega)
theorem cutB_len (c : UInt8) (s : ByteArray) : (cutB c s).length = Lib.countB s ⟨#[c]⟩ + 1 := Lib.splitB_all ⟨#[c]⟩ (Nat.le_refl 1) 0 _ s rfl
theorem cutB_le (c : UInt8) (s : ByteArray) : (cutB c s).length ≤ s.size + 1 := by
  have := Lib.countB_le ⟨#[c]⟩ (Nat.le_refl 1) _ s (Nat.le_refl _)
  rw [cutB_len]
  omega
end Go.Proofs.YtddjgbhkfdpffaaGreatDoor
set_option linter.unusedVariables false
set_option linter.unusedSimpArgs false
namespace Go.Proofs.YtddjgbhkfdpffaaGreatDoor
open Go.ChangeShapes Go.WideShapes Go.ChangeAt Go.RowKit

def wSeal : ByteArray := ⟨#[115, 101, 97, 108]⟩
def wOpen : ByteArray := ⟨#[111, 112, 101, 110]⟩
noncomputable def allNums : List ByteArray → Option (List Int)
  | [] => some []
  | s :: l => match numOf s with
    | none => none
    | some z => (allNums l).map (z :: ·)
noncomputable def numsB (word : ByteArray) (many : Nat) (line : ByteArray) : Option (List Int) :=
  @ite _ ((cutB 32 line)[0]? = some word ∧ (cutB 32 line).length = many + 1) (Classical.propDecidable _) (allNums ((cutB 32 line).drop 1)) none
theorem allNums_len : ∀ (l : List ByteArray) (zs : List Int), allNums l = some zs → zs.length = l.length
  | [], zs, h => by
    simp only [allNums] at h
    injection h with h
    rw [← h]
    rfl
  | s :: l, zs, h => by
    simp only [allNums] at h
    split at h
    · cases h
    · cases hl : allNums l with
      | none => rw [hl] at h; cases h
      | some ys =>
        rw [hl] at h
        simp only [Option.map_some] at h
        injection h with h
        rw [← h, List.length_cons, allNums_len l ys hl, List.length_cons]
theorem allNums_decs : ∀ (l : List Int), (∀ z ∈ l, -9223372036854775808 ≤ z ∧ z ≤ 9223372036854775807) → allNums (l.map dec) = some l
  | [], _ => rfl
  | z :: l, h => by
    have hz := h z (by simp)
    rw [List.map_cons, allNums, numOf_dec z hz.1 hz.2]
    simp only
    rw [allNums_decs l (fun y hy => h y (by simp [hy]))]
    rfl
theorem allNums_step (l : List ByteArray) (j : Nat) (zs : List Int) (z : Int) (h : j < l.length) (ha : allNums (l.take j) = some zs) (hz : numOf l[j] = some z) : allNums (l.take (j + 1)) = some (zs ++ [z]) := by
  induction l generalizing j zs with
  | nil => simp at h
  | cons s l ih =>
    cases j with
    | zero =>
      simp only [List.take_zero, allNums] at ha
      injection ha with ha
      subst ha
      simp only [List.getElem_cons_zero] at hz
      simp [allNums, hz]
    | succ j =>
      simp only [List.take_succ_cons, List.getElem_cons_succ] at *
      simp only [allNums] at ha ⊢
      split at ha
      · cases ha
      · rename_i y hy
        cases hl : allNums (l.take j) with
        | none => rw [hl] at ha; cases ha
        | some ys =>
          rw [hl] at ha
          simp only [Option.map_some] at ha
          injection ha with ha
          rw [ih j ys (by simpa using h) hl hz, ← ha]
          rfl
theorem allNums_stop : ∀ (l : List ByteArray) (j : Nat) (h : j < l.length), numOf l[j] = none → allNums l = none
  | s :: l, 0, h, hz => by
    simp only [List.getElem_cons_zero] at hz
    simp [allNums, hz]
  | s :: l, j + 1, h, hz => by
    simp only [List.getElem_cons_succ] at hz
    rw [allNums, allNums_stop l j (by simpa using h) hz]
    split <;> rfl
theorem numsB_len {word line : ByteArray} {many : Nat} {zs : List Int} (h : numsB word many line = some zs) : zs.length = many := by
  unfold numsB at h
  split at h
  · rename_i hc
    rw [allNums_len _ _ h, List.length_drop, hc.2]
    rfl
  · cases h
noncomputable def stepP (p : LogPlan) (line : ByteArray) : LogPlan :=
  match numsB wSeal 4 line with
  | some l => { p with parts := p.parts ++ [⟨l.getD 0 0, l.getD 1 0, l.getD 2 0, l.getD 3 0⟩] }
  | none => match numsB wOpen 2 line with
    | some l => { p with open_ := l.getD 0 0, first := l.getD 1 0 }
    | none => p
noncomputable def foldP (l : List ByteArray) : LogPlan := l.foldl stepP ⟨[], 0, 0⟩
theorem foldP_succ (l : List ByteArray) (j : Nat) (h : j < l.length) : foldP (l.take (j + 1)) = stepP (foldP (l.take j)) l[j] := by
  unfold foldP
  rw [List.take_succ_eq_append_getElem h, List.foldl_append]
  rfl
theorem stepP_len (p : LogPlan) (line : ByteArray) : (stepP p line).parts.length ≤ p.parts.length + 1 := by
  unfold stepP
  split
  · simp
  · split <;> simp
theorem foldP_len (l : List ByteArray) : ∀ j, j ≤ l.length → (foldP (l.take j)).parts.length ≤ j
  | 0, _ => by simp [foldP]
  | j + 1, h => by
    rw [foldP_succ l j (by omega)]
    have h1 := stepP_len (foldP (l.take j)) (l[j]'(by omega))
    have h2 := foldP_len l j (by omega)
    omega
/-! what a plan's text is cut into -/
theorem digits_mem : ∀ (n u : Nat), u ≤ n → ∀ b ∈ Lib.decDigits u, 48 ≤ b.toNat ∧ b.toNat ≤ 57
  | n, u, hn, b, hb => by
    rw [Lib.decDigits] at hb
    split at hb
    · rename_i h
      simp only [List.mem_singleton] at hb
      rw [hb, u8_digit u h]
      omega
    · match n, hn with
      | 0, hn => omega
      | n + 1, hn =>
        have h9 : u % 10 < 10 := Nat.mod_lt _ (by decide)
        rcases List.mem_append.1 hb with hb | hb
        · exact digits_mem n (u / 10) (by omega) b hb
        · simp only [List.mem_singleton] at hb
          rw [hb, u8_digit _ h9]
          omega
theorem dec_mem (z : Int) (b : UInt8) (hb : b ∈ (dec z).data.toList) : b.toNat = 45 ∨ (48 ≤ b.toNat ∧ b.toNat ≤ 57) := by
  rw [dec_bytes] at hb
  unfold Lib.itoa at hb
  split at hb
  · rcases List.mem_cons.1 hb with rfl | hb
    · exact .inl rfl
    · exact .inr (digits_mem _ _ (Nat.le_refl _) b hb)
  · exact .inr (digits_mem _ _ (Nat.le_refl _) b hb)
theorem joined_bytes : ∀ (l : List Int) (w : ByteArray), (joinedText w l).data.toList = w.data.toList ++ l.flatMap (fun z => 32 :: (dec z).data.toList)
  | [], w => by simp [joinedText]
  | z :: l, w => by
    have e : joinedText w (z :: l) = joinedText (w ++ (⟨#[32]⟩ ++ dec z)) l := rfl
    rw [e, joined_bytes l]
    simp [ByteArray.data_append]
theorem glue_words : ∀ (l : List Int) (w : List UInt8), glue 32 (w :: l.map fun z => (dec z).data.toList) = w ++ l.flatMap (fun z => 32 :: (dec z).data.toList)
  | [], w => by simp [glue]
  | z :: l, w => by
    rw [List.map_cons, glue, glue_words l]
    simp
theorem joined_cut (w : ByteArray) (l : List Int) (hw : ∀ b ∈ w.data.toList, b ≠ 32) : cutB 32 (joinedText w l) = w :: l.map dec := by
  apply cutB_glue
  · rw [joined_bytes, List.map_cons, List.map_map]
    exact (glue_words l _).symm
  · intro a ha b hb
    rcases List.mem_cons.1 ha with rfl | ha
    · exact hw b hb
    · obtain ⟨z, _, rfl⟩ := List.mem_map.1 ha
      have := dec_mem z b hb
      intro e
      rw [e] at this
      have e2 : (32 : UInt8).toNat = 32 := rfl
      omega
  · simp
theorem joined_nums (w : ByteArray) (l : List Int) (hw : ∀ b ∈ w.data.toList, b ≠ 32) (hl : ∀ z ∈ l, -9223372036854775808 ≤ z ∧ z ≤ 9223372036854775807) : numsB w l.length (joinedText w l) = some l := by
  unfold numsB
  rw [joined_cut w l hw, if_pos ⟨rfl, by simp⟩, List.drop_succ_cons, List.drop_zero, allNums_decs l hl]
theorem joined_other (w v : ByteArray) (l : List Int) (k : Nat) (hw : ∀ b ∈ w.data.toList, b ≠ 32) (hv : w ≠ v) : numsB v k (joinedText w l) = none := by
  unfold numsB
  rw [joined_cut w l hw, if_neg (fun h => hv (by simpa using h.1))]
theorem seal_ne : wSeal ≠ wOpen := fun h => by
  have := congrArg (fun b => b.data.toList) h
  simp [wSeal, wOpen] at this
theorem seal_no : ∀ b ∈ wSeal.data.toList, b ≠ 32 := by decide
theorem open_no : ∀ b ∈ wOpen.data.toList, b ≠ 32 := by decide
def LogPlan.lines (p : LogPlan) : List ByteArray := p.parts.map (fun x => joinedText wSeal x.nums) ++ [joinedText wOpen [p.open_, p.first], ⟨#[101, 110, 100]⟩, ⟨#[]⟩]
theorem lines_bytes : ∀ (l : List LogPart) (s : ByteArray), (l.foldl (fun s x => s ++ LogPart.line x) s).data.toList = s.data.toList ++ l.flatMap (fun x => (joinedText wSeal x.nums).data.toList ++ [10])
  | [], s => by simp
  | x :: l, s => by
    rw [List.foldl_cons, lines_bytes l]
    have e : x.line = joinedText wSeal x.nums ++ ⟨#[10]⟩ := rfl
    rw [e]
    simp [ByteArray.data_append]
theorem glue_lines : ∀ (l : List LogPart) (t : List (List UInt8)), t ≠ [] → glue 10 (l.map (fun x => (joinedText wSeal x.nums).data.toList) ++ t) = l.flatMap (fun x => (joinedText wSeal x.nums).data.toList ++ [10]) ++ glue 10 t
  | [], t, _ => by simp
  | x :: l, t, ht => by
    have h := glue_lines l t ht
    cases hq : l.map (fun x => (joinedText wSeal x.nums).data.toList) ++ t with
    | nil => simp at hq; exact absurd hq.2 ht
    | cons a q =>
      rw [List.map_cons, List.cons_append, hq, glue, ← hq, h]
      simp
theorem joined_no10 (w : ByteArray) (l : List Int) (hw : ∀ b ∈ w.data.toList, b ≠ 10) : ∀ b ∈ (joinedText w l).data.toList, b ≠ 10 := by
  intro b hb
  rw [joined_bytes] at hb
  rcases List.mem_append.1 hb with hb | hb
  · exact hw b hb
  · obtain ⟨z, _, hz⟩ := List.mem_flatMap.1 hb
    have e2 : (10 : UInt8).toNat = 10 := rfl
    rcases List.mem_cons.1 hz with rfl | hz
    · decide
    · have := dec_mem z b hz
      intro e
      rw [e] at this
      omega
theorem LogPlan.text_cut (p : LogPlan) : cutB 10 p.text = p.lines := by
  apply cutB_glue
  · unfold LogPlan.text partLines LogPlan.lines
    rw [ByteArray.data_append, Array.toList_append, lines_bytes, List.map_append, List.map_map]
    have e := glue_lines p.parts ([joinedText wOpen [p.open_, p.first], (⟨#[101, 110, 100]⟩ : ByteArray), (⟨#[]⟩ : ByteArray)].map (·.data.toList)) (by simp)
    rw [show ((fun x : ByteArray => x.data.toList) ∘ fun x : LogPart => joinedText wSeal x.nums) = fun x : LogPart => (joinedText wSeal x.nums).data.toList from rfl, e]
    unfold LogPlan.last
    have e2 : (joinedText ⟨#[111, 112, 101, 110]⟩ [p.open_, p.first]) = joinedText wOpen [p.open_, p.first] := rfl
    rw [e2]
    simp [glue, ByteArray.data_append]
  · intro a ha
    unfold LogPlan.lines at ha
    rcases List.mem_append.1 ha with ha | ha
    · obtain ⟨x, _, rfl⟩ := List.mem_map.1 ha
      exact joined_no10 _ _ (by decide)
    · simp only [List.mem_cons, List.not_mem_nil, or_false] at ha
      rcases ha with rfl | rfl | rfl
      · exact joined_no10 _ _ (by decide)
      · decide
      · decide
  · simp [LogPlan.lines]
theorem fold_parts : ∀ (l : List LogPart) (p : LogPlan), (∀ x ∈ l, x.small) → (l.map (fun x => joinedText wSeal x.nums)).foldl stepP p = { p with parts := p.parts ++ l }
  | [], p, _ => by simp
  | x :: l, p, h => by
    have hx := h x (by simp)
    have e : stepP p (joinedText wSeal x.nums) = { p with parts := p.parts ++ [x] } := by
      unfold stepP
      have := joined_nums wSeal x.nums seal_no (fun z hz => by have := hx z hz; omega)
      rw [show x.nums.length = 4 from rfl] at this
      rw [this]
      rfl
    rw [List.map_cons, List.foldl_cons, e, fold_parts l _ (fun y hy => h y (by simp [hy]))]
    simp
theorem cut_end : cutB 32 ⟨#[101, 110, 100]⟩ = [⟨#[101, 110, 100]⟩] := cutB_glue 32 _ [⟨#[101, 110, 100]⟩] rfl (by decide) (by simp)
theorem cut_none : cutB 32 ⟨#[]⟩ = [⟨#[]⟩] := cutB_glue 32 _ [⟨#[]⟩] rfl (by decide) (by simp)
theorem step_same (p : LogPlan) (line : ByteArray) (h : (cutB 32 line).length = 1) : stepP p line = p := by
  unfold stepP numsB
  rw [if_neg (fun hh => by have := hh.2; omega), if_neg (fun hh => by have := hh.2; omega)]
theorem read_text (p : LogPlan) (h : p.ok) : foldP (cutB 10 p.text) = p := by
  have hf := p.first_small h
  have ho := h.2.1
  have e : stepP { (⟨[], 0, 0⟩ : LogPlan) with parts := p.parts } (joinedText wOpen [p.open_, p.first]) = p := by
    unfold stepP
    have h1 := joined_nums wOpen [p.open_, p.first] open_no (fun z hz => by
      simp only [List.mem_cons, List.not_mem_nil, or_false] at hz
      rcases hz with rfl | rfl <;> omega)
    rw [joined_other wOpen wSeal _ 4 open_no (Ne.symm seal_ne)]
    rw [show ([p.open_, p.first] : List Int).length = 2 from rfl] at h1
    simp only
    rw [h1]
    rfl
  rw [p.text_cut]
  unfold foldP LogPlan.lines
  rw [List.foldl_append, fold_parts _ _ (fun x hx => by obtain ⟨i, hi, rfl⟩ := List.getElem_of_mem hx; exact p.small h i hi)]
  simp only [List.nil_append, List.foldl_cons, List.foldl_nil]
  rw [e, step_same p _ (by rw [cut_end]; rfl), step_same p _ (by rw [cut_none]; rfl)]
/-- the plan whose text it is -/
noncomputable def readPlan (s : ByteArray) : Option LogPlan := @dite _ (∃ p : LogPlan, p.ok ∧ p.text = s) (Classical.propDecidable _) (fun h => some (Classical.choose h)) (fun _ => none)
theorem readPlan_some {s : ByteArray} {p q : LogPlan} (hq : ∀ r : LogPlan, r.ok → r.text = s → q = r) (h : p.ok ∧ p.text = s) : readPlan s = some q := by
  have hx : ∃ p : LogPlan, p.ok ∧ p.text = s := ⟨p, h⟩
  unfold readPlan
  rw [dif_pos hx]
  have h1 := Classical.choose_spec hx
  rw [hq _ h1.1 h1.2]
theorem readPlan_none {s : ByteArray} (h : ∀ p : LogPlan, p.ok → p.text ≠ s) : readPlan s = none := by
  unfold readPlan
  rw [dif_neg (fun ⟨p, h1, h2⟩ => h p h1 h2)]
def LogPlan.zero : LogPlan := ⟨[], 0, 0⟩
noncomputable def readP (s : ByteArray) : LogPlan := (readPlan s).getD LogPlan.zero
noncomputable def readPB (s : ByteArray) : Bool := (readPlan s).isSome
theorem text_pos (p : LogPlan) : 0 < p.text.size := by
  unfold LogPlan.text LogPlan.last
  have e : (⟨#[10, 101, 110, 100, 10]⟩ : ByteArray).size = 5 := rfl
  simp only [ByteArray.size_append]
  omega
/-- a reader's end: what it read is written again -/
theorem read_yes {s : ByteArray} {q : LogPlan} (hq : ∀ r : LogPlan, r.ok → r.text = s → q = r) (hw : q.write = s) (hs : 0 < s.size) : readP s = q ∧ readPB s = true := by
  have hok : q.ok := by
    refine Classical.byContradiction fun hn => ?_
    unfold LogPlan.write at hw
    rw [if_neg (by rw [tb_false hn]; simp)] at hw
    rw [← hw] at hs
    exact absurd hs (by decide)
  have ht : q.text = s := by
    unfold LogPlan.write at hw
    rwa [if_pos (tb_true hok)] at hw
  have h := readPlan_some hq ⟨hok, ht⟩
  unfold readP readPB
  rw [h]
  exact ⟨rfl, rfl⟩
theorem read_no {s : ByteArray} {q : LogPlan} (hq : ∀ r : LogPlan, r.ok → r.text = s → q = r) (hw : ¬ q.write = s) : readP s = LogPlan.zero ∧ readPB s = false := by
  have h : readPlan s = none := readPlan_none (fun p hp ht => hw (by
    rw [hq p hp ht]
    unfold LogPlan.write
    rw [if_pos (tb_true hp), ht]))
  unfold readP readPB
  rw [h]
  exact ⟨rfl, rfl⟩
theorem read_empty {s : ByteArray} (hs : s.size = 0) : readP s = LogPlan.zero ∧ readPB s = false := by
  have h : readPlan s = none := readPlan_none (fun p _ ht => by
    have := text_pos p
    rw [ht] at this
    omega)
  unfold readP readPB
  rw [h]
  exact ⟨rfl, rfl⟩
end Go.Proofs.YtddjgbhkfdpffaaGreatDoor
set_option linter.unusedVariables false
set_option linter.unusedSimpArgs false
namespace Go.Proofs.YtddjgbhkfdpffaaGreatDoor
open Go.ChangeShapes Go.WideShapes Go.ChangeAt Go.RowKit

def numK : Nat → Int → List UInt8 → Int × Nat
  | 0, acc, _ => (acc, 0)
  | _ + 1, acc, [] => (acc, 0)
  | k + 1, acc, b :: l => if 48 ≤ b.toNat ∧ b.toNat ≤ 57 then ((numK k (acc * 10 + ((b.toNat : Int) - 48)) l).1, (numK k (acc * 10 + ((b.toNat : Int) - 48)) l).2 + 1) else (acc, 0)
def numsK : Nat → List UInt8 → List Int × Nat
  | 0, _ => ([], 0)
  | n + 1, l => ((numK 7 0 l).1 :: (numsK n (l.drop ((numK 7 0 l).2 + 1))).1, (numK 7 0 l).2 + 1 + (numsK n (l.drop ((numK 7 0 l).2 + 1))).2)
theorem numsK_len : ∀ (n : Nat) (l : List UInt8), (numsK n l).1.length = n
  | 0, _ => rfl
  | n + 1, l => by simp [numsK, numsK_len n]
theorem numK_le : ∀ (k : Nat) (acc : Int) (l : List UInt8), (numK k acc l).2 ≤ k ∧ (numK k acc l).2 ≤ l.length
  | 0, acc, l => by simp [numK]
  | k + 1, acc, [] => by simp [numK]
  | k + 1, acc, b :: l => by
    have h := numK_le k (acc * 10 + ((b.toNat : Int) - 48)) l
    unfold numK
    split
    · simp only [List.length_cons]
      omega
    · simp
theorem numK_bd : ∀ (k : Nat) (acc : Int) (l : List UInt8), 0 ≤ acc → 0 ≤ (numK k acc l).1 ∧ (numK k acc l).1 + 1 ≤ (acc + 1) * 10 ^ k
  | 0, acc, l, h => by simp [numK]; omega
  | k + 1, acc, [], h => by
    have h10 : (1 : Int) ≤ 10 ^ (k + 1) := Int.pow_pos (n := 10) (m := k + 1) (by decide)
    have := Int.mul_le_mul_of_nonneg_left h10 (show 0 ≤ acc + 1 by omega)
    simp only [numK]
    omega
  | k + 1, acc, b :: l, h => by
    unfold numK
    split
    · rename_i hb
      have h1 := numK_bd k (acc * 10 + ((b.toNat : Int) - 48)) l (by omega)
      refine ⟨h1.1, Int.le_trans h1.2 ?_⟩
      have h10 : (0 : Int) ≤ 10 ^ k := Int.le_of_lt (Int.pow_pos (by decide))
      have h2 : (acc * 10 + ((b.toNat : Int) - 48) + 1) ≤ (acc + 1) * 10 := by omega
      have h3 := Int.mul_le_mul_of_nonneg_right h2 h10
      rw [Int.pow_succ, Int.mul_comm (10 ^ k) 10, ← Int.mul_assoc]
      exact h3
    · have h10 : (1 : Int) ≤ 10 ^ (k + 1) := Int.pow_pos (n := 10) (m := k + 1) (by decide)
      have := Int.mul_le_mul_of_nonneg_left h10 (show 0 ≤ acc + 1 by omega)
      simp only
      omega
theorem num7_bd (l : List UInt8) : 0 ≤ (numK 7 0 l).1 ∧ (numK 7 0 l).1 ≤ 9999999 := by
  have h := numK_bd 7 0 l (by decide)
  have e : ((0 : Int) + 1) * 10 ^ 7 = 10000000 := by decide
  rw [e] at h
  omega
theorem numsK_bd : ∀ (n : Nat) (l : List UInt8), ∀ z ∈ (numsK n l).1, 0 ≤ z ∧ z ≤ 9999999
  | 0, l, z, h => by simp [numsK] at h
  | n + 1, l, z, h => by
    simp only [numsK, List.mem_cons] at h
    rcases h with rfl | h
    · exact num7_bd l
    · exact numsK_bd n _ z h
theorem numsK_at : ∀ (n : Nat) (l : List UInt8), (numsK n l).2 ≤ 8 * n
  | 0, l => by simp [numsK]
  | n + 1, l => by
    have h1 := numsK_at n (l.drop ((numK 7 0 l).2 + 1))
    have h2 := (numK_le 7 0 l).1
    simp only [numsK]
    omega
def valD (acc : Int) (l : List UInt8) : Int := l.foldl (fun a d => a * 10 + ((d.toNat : Int) - 48)) acc
theorem numK_digits : ∀ (ds : List UInt8) (k : Nat) (acc : Int) (b : UInt8) (r : List UInt8), (∀ d ∈ ds, 48 ≤ d.toNat ∧ d.toNat ≤ 57) → ds.length ≤ k → ¬ (48 ≤ b.toNat ∧ b.toNat ≤ 57) → numK k acc (ds ++ b :: r) = (valD acc ds, ds.length)
  | [], 0, acc, b, r, _, _, hb => rfl
  | [], k + 1, acc, b, r, _, _, hb => by
    simp only [List.nil_append, numK, if_neg hb]
    rfl
  | d :: ds, 0, acc, b, r, _, h, _ => by simp at h
  | d :: ds, k + 1, acc, b, r, hd, hl, hb => by
    have ih := numK_digits ds k (acc * 10 + ((d.toNat : Int) - 48)) b r (fun x hx => hd x (by simp [hx])) (by simpa using hl) hb
    simp only [List.cons_append, numK]
    rw [if_pos (hd d (by simp)), ih]
    rfl
theorem valD_digits : ∀ (n u : Nat), u ≤ n → valD 0 (Lib.decDigits u) = (u : Int)
  | n, u, hn => by
    rw [Lib.decDigits]
    split
    · rename_i h
      simp only [valD, List.foldl_cons, List.foldl_nil, u8_digit u h]
      omega
    · match n, hn with
      | 0, hn => omega
      | n + 1, hn =>
        have h9 : u % 10 < 10 := Nat.mod_lt _ (by decide)
        have ih := valD_digits n (u / 10) (by omega)
        unfold valD at ih ⊢
        rw [List.foldl_append, ih]
        simp only [List.foldl_cons, List.foldl_nil, u8_digit _ h9]
        omega
theorem numK_dec (z : Int) (h0 : 0 ≤ z) (h1 : z ≤ 9999999) (b : UInt8) (r : List UInt8) (hb : ¬ (48 ≤ b.toNat ∧ b.toNat ≤ 57)) : numK 7 0 ((dec z).data.toList ++ b :: r) = (z, (dec z).data.toList.length) := by
  have e : (dec z).data.toList = Lib.decDigits z.toNat := by
    rw [dec_bytes]
    unfold Lib.itoa
    rw [if_neg (by omega)]
  rw [e, numK_digits _ _ _ _ _ (fun d hd => digits_mem _ _ (Nat.le_refl _) d hd) (decDigits_len 6 z.toNat (by omega)) hb, valD_digits _ _ (Nat.le_refl _)]
  congr 1
  omega
theorem numsK_decs (b : UInt8) (r : List UInt8) (hb : ¬ (48 ≤ b.toNat ∧ b.toNat ≤ 57)) : ∀ (zs : List Int), zs ≠ [] → (∀ z ∈ zs, 0 ≤ z ∧ z ≤ 9999999) → numsK zs.length (glue 32 (zs.map fun z => (dec z).data.toList) ++ b :: r) = (zs, (glue 32 (zs.map fun z => (dec z).data.toList)).length + 1)
  | [], h, _ => absurd rfl h
  | [z], _, h => by
    have hz := h z (by simp)
    have e := numK_dec z hz.1 hz.2 b r hb
    simp only [List.map_cons, List.map_nil, glue, List.length_cons, List.length_nil, numsK]
    rw [e]
  | z :: y :: zs, _, h => by
    have hz := h z (by simp)
    have ih := numsK_decs b r hb (y :: zs) (by simp) (fun x hx => h x (by simp [hx]))
    have e := numK_dec z hz.1 hz.2 32 (glue 32 ((y :: zs).map fun z => (dec z).data.toList) ++ b :: r) (by decide)
    have el : glue 32 ((z :: y :: zs).map fun z => (dec z).data.toList) ++ b :: r = (dec z).data.toList ++ 32 :: (glue 32 ((y :: zs).map fun z => (dec z).data.toList) ++ b :: r) := by
      simp [glue]
    rw [el, List.length_cons, numsK, e]
    simp only
    have ed : ((dec z).data.toList ++ 32 :: (glue 32 ((y :: zs).map fun z => (dec z).data.toList) ++ b :: r)).drop ((dec z).data.toList.length + 1) = glue 32 ((y :: zs).map fun z => (dec z).data.toList) ++ b :: r := by
      rw [List.drop_append]
      simp
    rw [ed, ih]
    simp [glue]
    omega
/-! where the parts of a plan's text begin -/
def LogPlan.at_ (p : LogPlan) (j : Nat) : Nat := (partLines (p.parts.take j)).size
theorem size_bytes (s : ByteArray) : s.size = s.data.toList.length := (Array.length_toList (xs := s.data)).symm
def LogPart.bytes (x : LogPart) : List UInt8 := (joinedText wSeal x.nums).data.toList ++ [10]
theorem LogPlan.rest (p : LogPlan) (j : Nat) (h : j ≤ p.parts.length) : p.text.data.toList.drop (p.at_ j) = (p.parts.drop j).flatMap LogPart.bytes ++ p.last.data.toList := by
  have e1 := lines_bytes (p.parts.take j) .empty
  have e2 := lines_bytes (p.parts.drop j) (partLines (p.parts.take j))
  have e3 : (p.parts.drop j).foldl (fun s x => s ++ LogPart.line x) (partLines (p.parts.take j)) = partLines p.parts := by
    unfold partLines
    rw [← List.foldl_append, List.take_append_drop]
  rw [e3] at e2
  unfold LogPlan.text LogPlan.at_
  rw [ByteArray.data_append, Array.toList_append, e2, size_bytes, List.append_assoc, List.drop_left]
  rfl
theorem LogPart.bytes_eq (x : LogPart) : x.bytes = [115, 101, 97, 108, 32] ++ (glue 32 (x.nums.map fun z => (dec z).data.toList) ++ [10]) := by
  unfold LogPart.bytes
  have e : x.nums.map (fun z => (dec z).data.toList) = (dec x.num).data.toList :: ([x.first, x.next, x.size].map fun z => (dec z).data.toList) := rfl
  rw [joined_bytes, e, glue_words]
  simp [wSeal, LogPart.nums]
theorem LogPlan.last_eq2 (p : LogPlan) : p.last.data.toList = [111, 112, 101, 110, 32] ++ (glue 32 ([p.open_, p.first].map fun z => (dec z).data.toList) ++ [10, 101, 110, 100, 10]) := by
  unfold LogPlan.last
  have e : joinedText ⟨#[111, 112, 101, 110]⟩ [p.open_, p.first] = joinedText wOpen [p.open_, p.first] := rfl
  rw [e, ByteArray.data_append, Array.toList_append, joined_bytes]
  simp [wOpen, glue]
theorem LogPlan.at_succ (p : LogPlan) (j : Nat) (h : j < p.parts.length) : p.at_ (j + 1) = p.at_ j + p.parts[j].bytes.length := by
  unfold LogPlan.at_
  rw [partLines_snoc _ _ h, ByteArray.size_append]
  congr 1
/-- one part read -/
theorem LogPlan.part_read (p : LogPlan) (hok : p.ok) (j : Nat) (h : j < p.parts.length) : (p.text.data.toList.drop (p.at_ j)).take 5 = [115, 101, 97, 108, 32] ∧ p.at_ j + 5 ≤ p.text.size ∧ numsK 4 (p.text.data.toList.drop (p.at_ j + 5)) = (p.parts[j].nums, p.parts[j].bytes.length - 5) ∧ 5 ≤ p.parts[j].bytes.length := by
  have hr := p.rest j (Nat.le_of_lt h)
  have hd : p.parts.drop j = p.parts[j] :: p.parts.drop (j + 1) := List.drop_eq_getElem_cons h
  have hs := p.small hok j h
  rw [hd, List.flatMap_cons] at hr
  generalize p.parts[j] = x at *
  rw [x.bytes_eq] at hr ⊢
  have hlen := congrArg List.length hr
  have hd5 : p.text.data.toList.drop (p.at_ j + 5) = (p.text.data.toList.drop (p.at_ j)).drop 5 := by rw [List.drop_drop]
  have hk := numsK_decs 10 ((p.parts.drop (j + 1)).flatMap LogPart.bytes ++ p.last.data.toList) (by decide) x.nums (by simp [LogPart.nums]) (fun z hz => by have := hs z hz; omega)
  rw [show x.nums.length = 4 from rfl] at hk
  have e5 : (p.text.data.toList.drop (p.at_ j)).drop 5 = glue 32 (x.nums.map fun z => (dec z).data.toList) ++ 10 :: ((p.parts.drop (j + 1)).flatMap LogPart.bytes ++ p.last.data.toList) := by
    rw [hr]
    simp
  refine ⟨by rw [hr]; simp, ?_, ?_, by simp⟩
  · rw [size_bytes]
    simp only [List.length_drop, List.length_append, List.length_cons] at hlen
    omega
  · rw [hd5, e5, hk]
    simp
theorem LogPlan.end_read (p : LogPlan) (hok : p.ok) : (p.text.data.toList.drop (p.at_ p.parts.length)).take 5 = [111, 112, 101, 110, 32] ∧ p.at_ p.parts.length + 5 ≤ p.text.size ∧ (numsK 2 (p.text.data.toList.drop (p.at_ p.parts.length + 5))).1 = [p.open_, p.first] := by
  have hr := p.rest p.parts.length (Nat.le_refl _)
  have hf := p.first_small hok
  have ho := hok.2.1
  rw [List.drop_length, List.flatMap_nil, List.nil_append, p.last_eq2] at hr
  have hlen := congrArg List.length hr
  have hd5 : p.text.data.toList.drop (p.at_ p.parts.length + 5) = (p.text.data.toList.drop (p.at_ p.parts.length)).drop 5 := by rw [List.drop_drop]
  have hk := numsK_decs 10 [101, 110, 100, 10] (by decide) [p.open_, p.first] (by simp) (fun z hz => by
    simp only [List.mem_cons, List.not_mem_nil, or_false] at hz
    rcases hz with rfl | rfl <;> omega)
  rw [show ([p.open_, p.first] : List Int).length = 2 from rfl] at hk
  have e5 : (p.text.data.toList.drop (p.at_ p.parts.length)).drop 5 = glue 32 ([p.open_, p.first].map fun z => (dec z).data.toList) ++ 10 :: [101, 110, 100, 10] := by
    rw [hr]
    simp
  refine ⟨by rw [hr]; simp, ?_, ?_⟩
  · rw [size_bytes]
    simp only [List.length_drop, List.length_append, List.length_cons] at hlen
    omega
  · rw [hd5, e5, hk]
/-- how far a reader is: parts ps read, the place at -/
def ReadAt (s : ByteArray) (ps : List LogPart) (a : Nat) : Prop := ∀ p : LogPlan, p.ok → p.text = s → ∃ j, j ≤ p.parts.length ∧ ps = p.parts.take j ∧ a = p.at_ j
theorem readAt_zero (s : ByteArray) : ReadAt s [] 0 := fun p _ _ => ⟨0, Nat.zero_le _, by simp, rfl⟩
theorem readAt_step {s : ByteArray} {ps : List LogPart} {a : Nat} (h : ReadAt s ps a) (h5 : (s.data.toList.drop a).take 5 = [115, 101, 97, 108, 32]) :
    ReadAt s (ps ++ [⟨(numsK 4 (s.data.toList.drop (a + 5))).1.getD 0 0, (numsK 4 (s.data.toList.drop (a + 5))).1.getD 1 0, (numsK 4 (s.data.toList.drop (a + 5))).1.getD 2 0, (numsK 4 (s.data.toList.drop (a + 5))).1.getD 3 0⟩]) (a + 5 + (numsK 4 (s.data.toList.drop (a + 5))).2) := by
  intro p hp ht
  obtain ⟨j, hj, rfl, rfl⟩ := h p hp ht
  subst ht
  by_cases hlt : j < p.parts.length
  · obtain ⟨_, _, h3, h4⟩ := p.part_read hp j hlt
    rw [h3]
    refine ⟨j + 1, hlt, ?_, ?_⟩
    · rw [List.take_succ_eq_append_getElem hlt]
      congr 1
    · rw [p.at_succ j hlt]
      omega
  · obtain rfl : j = p.parts.length := by omega
    have := (p.end_read hp).1
    rw [this] at h5
    simp at h5
theorem readAt_stop {s : ByteArray} {ps : List LogPart} {a : Nat} (h : ReadAt s ps a) (h5 : a + 5 ≤ s.size → (s.data.toList.drop a).take 5 = [115, 101, 97, 108, 32] → ¬ ps.length ≤ 40) :
    ∀ p : LogPlan, p.ok → p.text = s → a + 5 ≤ s.size ∧ (⟨ps, (numsK 2 (s.data.toList.drop (a + 5))).1.getD 0 0, (numsK 2 (s.data.toList.drop (a + 5))).1.getD 1 0⟩ : LogPlan) = p := by
  intro p hp ht
  obtain ⟨j, hj, rfl, rfl⟩ := h p hp ht
  subst ht
  by_cases hlt : j < p.parts.length
  · obtain ⟨h1, h2, _, _⟩ := p.part_read hp j hlt
    refine absurd ?_ (h5 h2 h1)
    have := hp.1
    rw [List.length_take]
    omega
  · obtain rfl : j = p.parts.length := by omega
    obtain ⟨_, h2, h3⟩ := p.end_read hp
    refine ⟨h2, ?_⟩
    rw [h3, List.take_length]
    rfl
end Go.Proofs.YtddjgbhkfdpffaaGreatDoor
