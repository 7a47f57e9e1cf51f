/-
  Reading schemas from texts: the program's reader: skip, until, name.
-/
import Derived.Lib.Strings
import Derived.Test.YtnaecdoeldoipaaGreatDoorKFirst
import Derived.Test.YtnaecdoeldoipaaGreatDoorKRead
import Derived.Test.YtnaecdoeldoipaaGreatDoorKShelf
set_option linter.unusedVariables false
set_option linter.unusedSimpArgs false
namespace Go.Proofs.YtnaecdoeldoipaaGreatDoor
open Go.ChangeShapes Go.WideShapes Go.ChangeAt Go.RowKit

/-- the program's reader in block g: l is left -/
def RdJ (w : World) (g : Nat) (l : List UInt8) (fail : Bool) : Prop := ∃ s : ByteArray, Row w g 67 [.string s, .bool fail] ∧ s.size ≤ 10000 ∧ l = bl s
theorem RdJ.lt {w : World} {g : Nat} {l : List UInt8} {fail : Bool} (h : RdJ w g l fail) : g < w.heap.size := by
  obtain ⟨_, hr, _⟩ := h
  exact hr.lt
theorem RdJ.len {w : World} {g : Nat} {l : List UInt8} {fail : Bool} (h : RdJ w g l fail) : l.length ≤ 10000 := by
  obtain ⟨s, hr, h1, rfl⟩ := h
  rw [bl_len]
  exact h1
theorem RdJ.low {w w' : World} {g : Nat} {l : List UInt8} {fail : Bool} {B : Nat} (h : RdJ w g l fail) (hb : Below B w w') (hB : g < B) : RdJ w' g l fail := by
  obtain ⟨s, hr, h⟩ := h
  exact ⟨s, hr.below hb hB, h⟩
theorem RdJ.below {w w' : World} {g : Nat} {l : List UInt8} {fail : Bool} (h : RdJ w g l fail) (hb : Below w.heap.size w w') : RdJ w' g l fail := h.low hb h.lt
theorem RdJ.drewN {w : World} {g : Nat} {l : List UInt8} {fail : Bool} (h : RdJ w g l fail) (n : Nat) : RdJ (w.drewN n) g l fail := h
theorem RdJ.cells {w : World} {g : Nat} {l : List UInt8} {fail : Bool} (h : RdJ w g l fail) : w.cell? ⟨g, 1, none⟩ = some (.bool fail) ∧ w.frozen? ⟨g, 1, none⟩ = false := by
  obtain ⟨s, hr, _⟩ := h
  exact ⟨hr.cell 1, hr.frozen 1⟩
theorem RdJ.setFail {w : World} {g : Nat} {l : List UInt8} {fail : Bool} (h : RdJ w g l fail) (b : Bool) : RdJ (w.setCell ⟨g, 1, none⟩ (.bool b)) g l b := by
  obtain ⟨s, hr, h⟩ := h
  exact ⟨s, hr.set 1 _, h⟩
theorem ba_bl (l : List UInt8) : bl (⟨l.toArray⟩ : ByteArray) = l := bl_mk l
theorem prefix_eaten (s u : List UInt8) : Eaten u s (Lib.hasPrefix s u) (Lib.trimPrefix s u) := by
  unfold Lib.trimPrefix Lib.hasPrefix
  by_cases h : u.isPrefixOf s = true
  · rw [if_pos h, h]
    rw [List.isPrefixOf_iff_prefix] at h
    obtain ⟨r, rfl⟩ := h
    exact .inl ⟨rfl, by rw [List.drop_left]⟩
  · rw [if_neg h]
    have hf : u.isPrefixOf s = false := Bool.eq_false_iff.2 h
    rw [hf]
    refine .inr ⟨rfl, rfl, fun r e => h ?_⟩
    rw [List.isPrefixOf_iff_prefix]
    exact ⟨r, e.symm⟩
def SkipOut (g : Nat) (u : ByteArray) (l : List UInt8) (fail : Bool) (w : World) (e : Ending) (w' : World) : Prop :=
  ∃ (ok : Bool) (l' : List UInt8), e = .returned (.bool ok) ∧ RdJ w' g l' fail ∧ Eaten (bl u) l ok l' ∧ w.grownBy w' (some g)
set_option maxRecDepth 100000 in
set_option maxHeartbeats 1000000 in
theorem skip_any {l : List UInt8} {fail : Bool} {g : Nat} {w : World} (h : RdJ w g l fail) (u : ByteArray) :
    Calls Tryz.prog 98 #[.pointer (some ⟨g, 0, none⟩), .string u] w (SkipOut g u l fail w) := by
  obtain ⟨s, hr, hs, rfl⟩ := h
  have r0 := hr.cell 0
  have f0 := hr.frozen 0
  have lr := hr.lt
  have HR := hide hr
  have HE := hide (prefix_eaten (bl s) (bl u))
  have HC := hide (Tryz.strings_CutPrefix s u w)
  obtain ⟨l', hl'⟩ : ∃ l', Lib.trimPrefix s.data.toList u.data.toList = l' := ⟨_, rfl⟩
  obtain ⟨ok, hok⟩ : ∃ ok, Lib.hasPrefix s.data.toList u.data.toList = ok := ⟨_, rfl⟩
  have HE2 := hide (show Eaten (bl u) (bl s) ok l' from by rw [← hl', ← hok]; exact HE.out)
  rw [hl', hok] at HC
  have HL := hide (show l'.length ≤ 10000 from by have h := HE2.out.le; rw [bl_len] at h; omega)
  clear hr hl' hok HE
  go_enter Tryz.func98, Tryz.ntmps98
  go_wp2_with fail
  refine HC.out.mono ?_
  rintro e w2 ⟨rfl, rfl⟩
  go_wp2
  go_ret
  exact ⟨ok, l', rfl, ⟨_, HR.out.set 0 _, by rw [← bl_len, ba_bl]; exact HL.out, (ba_bl l').symm⟩, HE2.out, only_setCell (p := ⟨g, 0, none⟩) (grown_refl _ (some g)) (.inl rfl) _⟩
/-- up to the first of some bytes -/
theorem indexAny_split (c : UInt8) : ∀ (l : List UInt8), (Lib.indexAny l [c] = -1 ∧ ∀ x ∈ l, x ≠ c) ∨ (∃ n : Nat, Lib.indexAny l [c] = (n : Int) ∧ n < l.length ∧ (∀ x ∈ l.take n, x ≠ c) ∧ ∃ r, l.drop n = c :: r)
  | [] => .inl ⟨rfl, fun x hx => by cases hx⟩
  | b :: l => by
    by_cases h : b = c
    · subst h
      refine .inr ⟨0, ?_, by simp, fun x hx => by simp at hx, l, rfl⟩
      simp [Lib.indexAny]
    · have hcon : [c].contains b = false := by simp [h]
      rcases indexAny_split c l with ⟨h1, h2⟩ | ⟨n, h1, h2, h3, r, h4⟩
      · refine .inl ⟨?_, fun x hx => ?_⟩
        · simp only [Lib.indexAny, hcon, h1]
          rfl
        · rcases List.mem_cons.1 hx with rfl | hx
          · exact h
          · exact h2 x hx
      · refine .inr ⟨n + 1, ?_, by simp only [List.length_cons]; omega, fun x hx => ?_, r, by simpa using h4⟩
        · simp only [Lib.indexAny, hcon, h1]
          have : ((n : Int) == -1) = false := by simp
          rw [this]
          simp
        · simp only [List.take_succ_cons] at hx
          rcases List.mem_cons.1 hx with rfl | hx
          · exact h
          · exact h3 x hx
/-- what stands ahead of the first c; all, if there is none -/
def Until (c : UInt8) (l : List UInt8) (x : ByteArray) (l' : List UInt8) : Prop := l = bl x ++ l' ∧ (∀ y ∈ bl x, y ≠ c) ∧ (l' = [] ∨ ∃ r, l' = c :: r)
theorem Until.at {c : UInt8} {l n r l' : List UInt8} {x : ByteArray} (h : Until c l x l') (hn : ∀ y ∈ n, y ≠ c) (e : l = n ++ c :: r) : bl x = n ∧ l' = c :: r := by
  obtain ⟨h1, h2, h3⟩ := h
  have key : ∀ (a b : List UInt8) (s t : List UInt8), (∀ y ∈ a, y ≠ c) → (∀ y ∈ b, y ≠ c) → (t = [] ∨ ∃ r, t = c :: r) → a ++ c :: s = b ++ t → b = a ∧ t = c :: s := by
    intro a
    induction a with
    | nil =>
      intro b s t _ hb ht e
      cases b with
      | nil => exact ⟨rfl, e.symm⟩
      | cons y b =>
        simp only [List.nil_append, List.cons_append] at e
        injection e with e1 _
        exact absurd e1.symm (hb y (by simp))
    | cons z a ih =>
      intro b s t ha hb ht e
      cases b with
      | nil =>
        rcases ht with rfl | ⟨r', rfl⟩
        · simp at e
        · simp only [List.nil_append, List.cons_append] at e
          injection e with e1 _
          exact absurd e1 (ha z (by simp))
      | cons y b =>
        simp only [List.cons_append] at e
        injection e with e1 e2
        obtain ⟨h1, h2⟩ := ih b s t (fun y hy => ha y (by simp [hy])) (fun y hy => hb y (by simp [hy])) ht e2
        exact ⟨by rw [h1, e1], h2⟩
  exact key n (bl x) r l' hn h2 h3 (e.symm.trans h1)
theorem sub_bl' (s : ByteArray) (n m : Nat) : bl (s.extract n m) = ((bl s).drop n).take (m - n) := Lib.extract_data s n m
theorem extract_whole (s : ByteArray) : s.extract 0 s.size = s := by
  apply bl_inj
  rw [sub_bl', List.drop_zero, Nat.sub_zero]
  exact List.take_of_length_le (by rw [bl_len]; exact Nat.le_refl _)
def UntilOut (g : Nat) (c : UInt8) (l : List UInt8) (fail : Bool) (w : World) (e : Ending) (w' : World) : Prop :=
  ∃ (x : ByteArray) (l' : List UInt8), e = .returned (.string x) ∧ x.size ≤ 10000 ∧ RdJ w' g l' fail ∧ Until c l x l' ∧ w.grownBy w' (some g)
set_option maxRecDepth 100000 in
set_option maxHeartbeats 1000000 in
theorem until_any {l : List UInt8} {fail : Bool} {g : Nat} {w : World} (h : RdJ w g l fail) (c : UInt8) (hc : c.toNat < 128) :
    Calls Tryz.prog 103 #[.pointer (some ⟨g, 0, none⟩), .string ⟨#[c]⟩] w (UntilOut g c l fail w) := by
  obtain ⟨s, hr, hs, rfl⟩ := h
  have r0 := hr.cell 0
  have f0 := hr.frozen 0
  have lr := hr.lt
  have HR := hide hr
  have HC := hide (Tryz.strings_IndexAny_one s ⟨#[c]⟩ w rfl (fun j b hj => by
    have : j = 0 := by
      have := (List.getElem?_eq_some_iff.1 hj).1
      simp at this
      omega
    subst this
    simp at hj
    subst hj
    exact hc))
  rcases indexAny_split c (bl s) with ⟨h1, h2⟩ | ⟨n, h1, h2, h3, r, h4⟩
  · rw [show Lib.indexAny s.data.toList (⟨#[c]⟩ : ByteArray).data.toList = -1 from h1] at HC
    have H2 := hide h2
    have h01 : (0 : Int) ≤ (s.size : Int) := by omega
    clear hr h1 h2
    go_enter Tryz.func103, Tryz.ntmps103
    go_wp2_with fail
    refine HC.out.mono ?_
    rintro e w2 ⟨rfl, rfl⟩
    go_wp2
    go_ret
    refine ⟨s, [], by simp [Array.getD, extract_whole], by omega, ⟨_, HR.out.set 0 _, by simp, bl_nil.symm⟩, ⟨by rw [List.append_nil], H2.out, .inl rfl⟩, only_setCell (p := ⟨g, 0, none⟩) (grown_refl _ (some g)) (.inl rfl) _⟩
  · rw [show Lib.indexAny s.data.toList (⟨#[c]⟩ : ByteArray).data.toList = (n : Int) from h1] at HC
    rw [bl_len] at h2
    have H3 := hide h3
    have H4 := hide h4
    have hn0 : ¬ ((n : Int) < 0) := by omega
    have hn1 : (n : Int) ≤ (s.size : Int) := by omega
    have hn2 : (0 : Int) ≤ (n : Int) := by omega
    clear hr h1 h3 h4
    go_enter Tryz.func103, Tryz.ntmps103
    go_wp2_with fail
    refine HC.out.mono ?_
    rintro e w2 ⟨rfl, rfl⟩
    go_wp2
    go_ret
    obtain ⟨r', h4'⟩ : ∃ r', (bl s).drop n = c :: r' := ⟨r, H4.out⟩
    refine ⟨s.extract 0 n, (bl s).drop n, by simp [Array.getD], by rw [ByteArray.size_extract]; omega, ⟨_, HR.out.set 0 _, by rw [ByteArray.size_extract]; omega, ?_⟩, ⟨?_, ?_, .inr ⟨r', h4'⟩⟩, only_setCell (p := ⟨g, 0, none⟩) (grown_refl _ (some g)) (.inl rfl) _⟩
    · rw [sub_bl']
      exact (List.take_of_length_le (by rw [List.length_drop, bl_len]; exact Nat.le_refl _)).symm
    · rw [sub_bl', List.drop_zero, Nat.sub_zero, List.take_append_drop]
    · rw [sub_bl', List.drop_zero, Nat.sub_zero]
      exact H3.out
/-- what the program's name takes: a name and a colon -/
def NamedJ (l : List UInt8) (fail : Bool) (x : ByteArray) (l' : List UInt8) (fail' : Bool) : Prop :=
  x.size + l'.length ≤ l.length ∧ (fail' = false → fail = false ∧ x.size + 1 + l'.length = l.length) ∧ ∀ n r, NameOk n → fail = false → l = bl n ++ 58 :: r → x = n ∧ l' = r ∧ fail' = false
def NameOutJ (g : Nat) (l : List UInt8) (fail : Bool) (w : World) (e : Ending) (w' : World) : Prop :=
  ∃ (x : ByteArray) (l' : List UInt8) (fail' : Bool), e = .returned (.string x) ∧ x.size ≤ 10000 ∧ RdJ w' g l' fail' ∧ NamedJ l fail x l' fail' ∧ w.grownBy w' (some g)
theorem name_no58 {n : ByteArray} (h : NameOk n) : ∀ y ∈ bl n, y ≠ 58 := fun y hy => by
  have := nameOk_chars h
  rw [List.all_eq_true] at this
  exact nameCh_not (this y hy) (by decide)
set_option maxRecDepth 100000 in
set_option maxHeartbeats 1000000 in
theorem nameJ_any {l : List UInt8} {fail : Bool} {g : Nat} {w : World} (h : RdJ w g l fail) :
    Calls Tryz.prog 102 #[.pointer (some ⟨g, 0, none⟩)] w (NameOutJ g l fail w) := by
  have HU := hide (until_any h 58 (by decide))
  clear h
  go_enter Tryz.func102, Tryz.ntmps102
  go_wp2_with fail
  refine HU.out.mono ?_
  rintro e w2 ⟨x, l2, rfl, hx, h2, hu, hg2⟩
  have H2 := hide h2
  have HUN := hide hu
  have HG2 := hide hg2
  have hlen := congrArg List.length hu.1
  rw [List.length_append, bl_len] at hlen
  obtain ⟨hb, hbf⟩ := h2.cells
  have lg := h2.lt
  clear h2 hu hg2 HU
  rcases fail with _ | _
  rotate_left
  · go_wp2
    go_ret
    exact ⟨x, l2, true, rfl, hx, H2.out.setFail true, ⟨by omega, (fun h => by cases h), (fun _ _ _ h => by cases h)⟩, only_setCell (p := ⟨g, 1, none⟩) HG2.out (.inl rfl) _⟩
  have HSK := hide (skip_any H2.out ⟨#[58]⟩)
  go_wp2_with fail
  refine HSK.out.mono ?_
  rintro e w3 ⟨ok, l3, rfl, h3, he3, hg3⟩
  have H3 := hide h3
  have HE3 := hide (show Eaten [58] l2 ok l3 from he3)
  have HG3 := hide (only_trans HG2.out hg3)
  obtain ⟨hb, hbf⟩ := h3.cells
  have lg := h3.lt
  clear h3 he3 hg3 HSK
  rcases ok with _ | _
  · have HLE := hide HE3.out.le
    have HNO := hide (show ∀ n r, NameOk n → l = bl n ++ 58 :: r → False from fun n r hn e => by
      obtain ⟨_, h2⟩ := HUN.out.at (name_no58 hn) e
      exact absurd h2 (HE3.out.no.2 r))
    go_wp2
    go_ret
    exact ⟨x, l3, true, rfl, hx, H3.out.setFail true, ⟨by have := HLE.out; omega, (fun h => by cases h), (fun n r hn _ e => (HNO.out n r hn e).elim)⟩, only_setCell (p := ⟨g, 1, none⟩) HG3.out (.inl rfl) _⟩
  have HLT := hide (show l3.length + 1 = l2.length from HE3.out.lt)
  have HNM := hide (isName_any x w3 (by unfold maxLen; omega))
  go_wp2_with fail
  refine HNM.out.mono ?_
  rintro e w4 ⟨rfl, rfl⟩
  by_cases hn : NameOk x
  · rw [tb_true hn]
    have HYES := hide (show ∀ n r, NameOk n → l = bl n ++ 58 :: r → x = n ∧ l3 = r from fun n r hn e => by
      obtain ⟨h1, h2⟩ := HUN.out.at (name_no58 hn) e
      exact ⟨bl_inj h1, (HE3.out.yes (r := r) h2).2⟩)
    clear hn
    go_wp2
    go_ret
    exact ⟨x, l3, false, rfl, hx, H3.out.setFail false, ⟨by have := HLT.out; omega, (fun _ => ⟨rfl, by have := HLT.out; omega⟩), (fun n r hn _ e => ⟨(HYES.out n r hn e).1, (HYES.out n r hn e).2, rfl⟩)⟩, only_setCell (p := ⟨g, 1, none⟩) HG3.out (.inl rfl) _⟩
  · rw [tb_false hn]
    have HNO := hide (show ∀ n r, NameOk n → l = bl n ++ 58 :: r → False from fun n r hn2 e => by
      obtain ⟨h1, h2⟩ := HUN.out.at (name_no58 hn2) e
      exact absurd (bl_inj h1 ▸ hn2) hn)
    clear hn
    go_wp2
    go_ret
    exact ⟨x, l3, true, rfl, hx, H3.out.setFail true, ⟨by have := HLT.out; omega, (fun h => by cases h), (fun n r hn _ e => (HNO.out n r hn e).elim)⟩, only_setCell (p := ⟨g, 1, none⟩) HG3.out (.inl rfl) _⟩
end Go.Proofs.YtnaecdoeldoipaaGreatDoor
