/-
  Reading trees from texts: the program's until at three marks; its numbers.
-/
import Derived.Test.YtnaecdoeldoipaaGreatDoorKTrM
import Derived.Test.YtnaecdoeldoipaaGreatDoorKMarksW
set_option linter.unusedVariables false
set_option linter.unusedSimpArgs false
namespace Go.Proofs.YtnaecdoeldoipaaGreatDoor
open Go.ChangeShapes Go.WideShapes Go.ChangeAt Go.RowKit

def marks3 : List UInt8 := [44, 93, 125]
theorem anySplit (m : List UInt8) : ∀ (l : List UInt8), (Lib.indexAny l m = -1 ∧ ∀ x ∈ l, m.contains x = false) ∨ (∃ n : Nat, Lib.indexAny l m = (n : Int) ∧ n < l.length ∧ (∀ x ∈ l.take n, m.contains x = false) ∧ ∃ c r, l.drop n = c :: r ∧ m.contains c = true)
  | [] => .inl ⟨rfl, fun x hx => by cases hx⟩
  | b :: l => by
    cases h : m.contains b with
    | true => exact .inr ⟨0, by rw [Lib.indexAny, if_pos h]; rfl, by simp, fun x hx => by simp at hx, b, l, rfl, h⟩
    | false =>
      rcases anySplit m l with ⟨h1, h2⟩ | ⟨n, h1, h2, h3, c, r, h4, h5⟩
      · refine .inl ⟨?_, fun x hx => ?_⟩
        · simp only [Lib.indexAny, h, h1]
          rfl
        · rcases List.mem_cons.1 hx with rfl | hx
          · exact h
          · exact h2 x hx
      · refine .inr ⟨n + 1, ?_, by simp only [List.length_cons]; omega, fun x hx => ?_, c, r, by simpa using h4, h5⟩
        · simp only [Lib.indexAny, h, h1]
          have : ((n : Int) == -1) = false := by simp
          rw [this]
          simp
        · simp only [List.take_succ_cons] at hx
          rcases List.mem_cons.1 hx with rfl | hx
          · exact h
          · exact h3 x hx
/-- what stands ahead of the first mark; all, if there is none -/
def UntilM (l : List UInt8) (x : ByteArray) (l' : List UInt8) : Prop := l = bl x ++ l' ∧ (∀ y ∈ bl x, marks3.contains y = false) ∧ (l' = [] ∨ ∃ c r, l' = c :: r ∧ marks3.contains c = true)
theorem ender_mark {R : List UInt8} (h : Ender R) : R = [] ∨ ∃ c r, R = c :: r ∧ marks3.contains c = true := by
  match R, h with
  | [], _ => exact .inl rfl
  | c :: r, h =>
    refine .inr ⟨c, r, rfl, ?_⟩
    rcases h c r rfl with rfl | rfl | rfl <;> decide
theorem marks_split : ∀ (a b s t : List UInt8), (∀ y ∈ a, marks3.contains y = false) → (∀ y ∈ b, marks3.contains y = false) → (s = [] ∨ ∃ c r, s = c :: r ∧ marks3.contains c = true) → (t = [] ∨ ∃ c r, t = c :: r ∧ marks3.contains c = true) → a ++ s = b ++ t → b = a ∧ t = s
  | [], [], s, t, _, _, _, _, e => ⟨rfl, e.symm⟩
  | [], y :: b, s, t, _, hb, hs, _, e => by
    rcases hs with rfl | ⟨c, r, rfl, hc⟩
    · simp at e
    · simp only [List.nil_append, List.cons_append] at e
      injection e with e1 _
      subst e1
      rw [hb c (by simp)] at hc
      cases hc
  | z :: a, [], s, t, ha, _, _, ht, e => by
    rcases ht with rfl | ⟨c, r, rfl, hc⟩
    · simp at e
    · simp only [List.nil_append, List.cons_append] at e
      injection e with e1 _
      subst e1
      rw [ha z (by simp)] at hc
      cases hc
  | z :: a, y :: b, s, t, ha, hb, hs, ht, e => by
    simp only [List.cons_append] at e
    injection e with e1 e2
    obtain ⟨h1, h2⟩ := marks_split a b s t (fun y hy => ha y (by simp [hy])) (fun y hy => hb y (by simp [hy])) hs ht e2
    exact ⟨by rw [h1, e1], h2⟩
theorem UntilM.at {l n R l' : List UInt8} {x : ByteArray} (h : UntilM l x l') (hn : ∀ y ∈ n, marks3.contains y = false) (hR : Ender R) (e : l = n ++ R) : bl x = n ∧ l' = R :=
  marks_split n (bl x) R l' hn h.2.1 (ender_mark hR) h.2.2 (e.symm.trans h.1)
def UntilOutM (g : Nat) (l : List UInt8) (fail : Bool) (w : World) (e : Ending) (w' : World) : Prop :=
  ∃ (x : ByteArray) (l' : List UInt8), e = .returned (.string x) ∧ x.size ≤ 10000 ∧ RdJ w' g l' fail ∧ UntilM l x l' ∧ w.grownBy w' (some g)
theorem ascii3 : Ascii ⟨#[44, 93, 125]⟩ := by
  intro x hx
  simp only [bl, List.mem_cons, List.not_mem_nil, or_false] at hx
  rcases hx with rfl | rfl | rfl <;> decide
set_option maxRecDepth 100000 in
set_option maxHeartbeats 1000000 in
theorem until3_any {l : List UInt8} {fail : Bool} {g : Nat} {w : World} (h : RdJ w g l fail) :
    Calls Tryz.prog 103 #[.pointer (some ⟨g, 0, none⟩), .string ⟨#[44, 93, 125]⟩] w (UntilOutM g l fail w) := by
  obtain ⟨s, hr, hs, rfl⟩ := h
  have r0 := hr.cell 0
  have f0 := hr.frozen 0
  have lr := hr.lt
  have HR := hide hr
  have HC := hide (indexAny_any s ⟨#[44, 93, 125]⟩ (by omega) (by decide) (by decide) ascii3 w)
  rcases anySplit marks3 (bl s) with ⟨h1, h2⟩ | ⟨n, h1, h2, h3, c, r, h4, h5⟩
  · rw [show Lib.indexAny s.data.toList (⟨#[44, 93, 125]⟩ : ByteArray).data.toList = -1 from h1] at HC
    have H2 := hide h2
    have h01 : (0 : Int) ≤ (s.size : Int) := by omega
    clear hr h1 h2 r0 f0 lr
    go_enter Tryz.func103, Tryz.ntmps103
    have r0 := HR.out.cell 0
    have f0 := HR.out.frozen 0
    have lr := HR.out.lt
    go_wp2_with fail
    refine HC.out.mono ?_
    rintro e w2 ⟨rfl, hb⟩
    have HB := hide hb
    have HR2 := hide (HR.out.below hb lr)
    clear r0 f0 lr hb
    have r0 := HR2.out.cell 0
    have f0 := HR2.out.frozen 0
    have lr := HR2.out.lt
    go_wp2
    go_ret
    refine ⟨s, [], by simp [Array.getD, extract_whole], by omega, ⟨_, HR2.out.set 0 _, by simp, bl_nil.symm⟩, ⟨by rw [List.append_nil], H2.out, .inl rfl⟩, only_setCell (p := ⟨g, 0, none⟩) (grownBy_below HB.out (some g)) (.inl rfl) _⟩
  · rw [show Lib.indexAny s.data.toList (⟨#[44, 93, 125]⟩ : ByteArray).data.toList = (n : Int) from h1] at HC
    rw [bl_len] at h2
    have H3 := hide h3
    have H4 := hide h4
    have H5 := hide h5
    have hn0 : ¬ ((n : Int) < 0) := by omega
    have hn1 : (n : Int) ≤ (s.size : Int) := by omega
    have hn2 : (0 : Int) ≤ (n : Int) := by omega
    clear hr h1 h3 h4 h5 r0 f0 lr
    go_enter Tryz.func103, Tryz.ntmps103
    have r0 := HR.out.cell 0
    have f0 := HR.out.frozen 0
    have lr := HR.out.lt
    go_wp2_with fail
    refine HC.out.mono ?_
    rintro e w2 ⟨rfl, hb⟩
    have HB := hide hb
    have HR2 := hide (HR.out.below hb lr)
    clear r0 f0 lr hb
    have r0 := HR2.out.cell 0
    have f0 := HR2.out.frozen 0
    have lr := HR2.out.lt
    go_wp2
    go_ret
    obtain ⟨r', h4'⟩ : ∃ r', (bl s).drop n = c :: r' := ⟨r, H4.out⟩
    refine ⟨s.extract 0 n, (bl s).drop n, by simp [Array.getD], by rw [ByteArray.size_extract]; omega, ⟨_, HR2.out.set 0 _, by rw [ByteArray.size_extract]; omega, ?_⟩, ⟨?_, ?_, .inr ⟨c, r', h4', H5.out⟩⟩, only_setCell (p := ⟨g, 0, none⟩) (grownBy_below HB.out (some g)) (.inl rfl) _⟩
    · rw [sub_bl']
      exact (List.take_of_length_le (by rw [List.length_drop, bl_len]; exact Nat.le_refl _)).symm
    · rw [sub_bl', List.drop_zero, Nat.sub_zero, List.take_append_drop]
    · rw [sub_bl', List.drop_zero, Nat.sub_zero]
      exact H3.out
theorem dec_marks (z : Int) : ∀ y ∈ bl (dec z), marks3.contains y = false := by
  intro y hy
  have h : y.toNat = 45 ∨ (48 ≤ y.toNat ∧ y.toNat ≤ 57) := dec_mem z y hy
  rw [Bool.eq_false_iff]
  intro hc
  have hm : y = 44 ∨ y = 93 ∨ y = 125 := by simpa [marks3] using hc
  rcases hm with rfl | rfl | rfl <;> (revert h; decide)
/-- the number that the program reads is the number that stands there -/
theorem numTaken_of {l l' : List UInt8} {x : ByteArray} {n : Int} (h : UntilM l x l') (hn : ∀ z, numOf x = some z → n = z) : NumTaken l false n l' (!(numOf x).isSome) := by
  intro z R hz hR _ e
  obtain ⟨hx, hl⟩ := h.at (dec_marks z) hR e
  have hxe := bl_inj hx
  subst hxe
  have h1 := numOf_dec z (by omega) (by omega)
  exact ⟨hn z h1, by rw [h1]; rfl, hl⟩
theorem numOf_nil : numOf .empty = none := numOf_none fun z hz => by
  have h : dec z = .empty := hz.2.2
  obtain ⟨c, r, hc, _⟩ := dec_head z
  rw [h] at hc
  cases hc
theorem numPaid {lv : Nat} {l l' : List UInt8} {x : ByteArray} (h : UntilM l x l') : Paid lv l 0 l' (!(numOf x).isSome) := by
  have h1 := congrArg List.length h.1
  rw [List.length_append, bl_len] at h1
  refine ⟨by omega, by omega, fun hb => ?_⟩
  have hx : 1 ≤ x.size := by
    rcases Nat.eq_zero_or_pos x.size with h0 | h0
    · have : x = .empty := bl_inj (by
        have hl := bl_len x
        rw [h0] at hl
        exact List.eq_nil_of_length_eq_zero hl)
      subst this
      rw [numOf_nil] at hb
      cases hb
    · exact h0
  omega
end Go.Proofs.YtnaecdoeldoipaaGreatDoor
