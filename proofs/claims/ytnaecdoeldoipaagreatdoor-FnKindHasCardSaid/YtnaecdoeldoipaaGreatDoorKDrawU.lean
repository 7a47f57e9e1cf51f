/-
  The draws of the reference: how much a tree of a schema holds, and how many picks it costs.
-/
import Derived.Test.YtnaecdoeldoipaaGreatDoorKSpoil0
import Derived.Test.YtnaecdoeldoipaaGreatDoorKDrawT
import Derived.Test.YtnaecdoeldoipaaGreatDoorKTrT
set_option linter.unusedVariables false
set_option linter.unusedSimpArgs false
namespace Go.Proofs.YtnaecdoeldoipaaGreatDoor
open Go.ChangeShapes Go.WideShapes Go.ChangeAt Go.RowKit

mutual
def Kind.tn : Kind → Nat
  | .mk _ ns ks => 60 + bulkStrs ns + 3 * (ks.length + Kind.tnS ks)
def Kind.tnS : List Kind → Nat
  | [] => 0
  | x :: r => x.tn + Kind.tnS r
end
mutual
def Kind.tp : Kind → Nat
  | .mk _ _ ks => 4 + 3 * Kind.tpS ks
def Kind.tpS : List Kind → Nat
  | [] => 0
  | x :: r => x.tp + Kind.tpS r
end
theorem Kind.tn_eq (x : Kind) : x.tn = 60 + bulkStrs x.names + 3 * (x.kids.length + Kind.tnS x.kids) := by cases x; rfl
theorem Kind.tp_eq (x : Kind) : x.tp = 4 + 3 * Kind.tpS x.kids := by cases x; rfl
theorem Kind.tnS_append (a b : List Kind) : Kind.tnS (a ++ b) = Kind.tnS a + Kind.tnS b := by
  induction a with
  | nil => simp [Kind.tnS]
  | cons x a ih => simp [Kind.tnS, ih]; omega
theorem Kind.tpS_append (a b : List Kind) : Kind.tpS (a ++ b) = Kind.tpS a + Kind.tpS b := by
  induction a with
  | nil => simp [Kind.tpS]
  | cons x a ih => simp [Kind.tpS, ih]; omega
theorem Kind.tnS_snoc (l : List Kind) (k : Nat) (h : k < l.length) : Kind.tnS (l.take (k + 1)) = Kind.tnS (l.take k) + l[k].tn := by
  rw [List.take_succ_eq_append_getElem h, Kind.tnS_append]
  simp [Kind.tnS]
theorem Kind.tpS_snoc (l : List Kind) (k : Nat) (h : k < l.length) : Kind.tpS (l.take (k + 1)) = Kind.tpS (l.take k) + l[k].tp := by
  rw [List.take_succ_eq_append_getElem h, Kind.tpS_append]
  simp [Kind.tpS]
theorem Kind.tnS_le (l : List Kind) (k : Nat) : Kind.tnS (l.take k) ≤ Kind.tnS l := by
  conv => rhs; rw [← List.take_append_drop k l, Kind.tnS_append]
  omega
theorem Kind.tpS_le (l : List Kind) (k : Nat) : Kind.tpS (l.take k) ≤ Kind.tpS l := by
  conv => rhs; rw [← List.take_append_drop k l, Kind.tpS_append]
  omega
theorem names_small {l : List ByteArray} (h : NamesOk l) : bulkStrs l ≤ 9 * l.length := by
  have hs : ∀ x ∈ l, x.size ≤ 8 := fun x hx => by
    obtain ⟨i, hi, rfl⟩ := List.getElem_of_mem hx
    exact (h i hi).1.2.1
  clear h
  have : bulkStr l ≤ 8 * l.length := by
    induction l with
    | nil => simp [bulkStr]
    | cons x r ih =>
      have h1 := hs x (by simp)
      have h2 := ih (fun y hy => hs y (by simp [hy]))
      simp only [bulkStr, List.length_cons]
      omega
  unfold bulkStrs
  omega
theorem Kind.shape_names {x : Kind} (h : x.shape) : bulkStrs x.names ≤ 9 * x.kids.length := by
  rcases h with ⟨_, h1, h2⟩ | ⟨_, h1, h2⟩ | ⟨_, h1, h2⟩
  · rw [List.eq_nil_of_length_eq_zero h1]; simp [bulkStrs, bulkStr]
  · rw [List.eq_nil_of_length_eq_zero h1]; simp [bulkStrs, bulkStr]
  · have := names_small h1
    omega
theorem Kind.tnS_good {c : Nat} : ∀ (ks : List Kind) (lv : Nat), (∀ x ∈ ks, x.good lv → x.tn + 4 ≤ c * x.parts ∧ x.tp ≤ c * x.parts) → Kind.goodS ks lv → Kind.tnS ks + 4 * ks.length ≤ c * Kind.partsS ks ∧ Kind.tpS ks ≤ c * Kind.partsS ks
  | [], lv, _, _ => by simp [Kind.tnS, Kind.tpS, Kind.partsS]
  | x :: r, lv, h, hg => by
    have h1 := h x (by simp) hg.1
    have h2 := Kind.tnS_good r lv (fun y hy => h y (by simp [hy])) hg.2
    simp only [Kind.tnS, Kind.tpS, Kind.partsS, List.length_cons, Nat.mul_add]
    omega
theorem Kind.tn_good : ∀ (f : Nat) (x : Kind) (lv : Nat), lv + f = 6 → x.good lv → x.tn + 4 ≤ 70 * 3 ^ f * x.parts ∧ x.tp ≤ 70 * 3 ^ f * x.parts
  | 0, x, lv, hf, h => by
    obtain ⟨h1, h2, h3⟩ := (Kind.good_iff x lv).1 h
    have hk : x.kids = [] := by
      rcases hx : x.kids with _ | ⟨y, r⟩
      · rfl
      · rw [hx] at h3
        have := ((Kind.good_iff y (lv + 1)).1 h3.1).1
        omega
    have hn := Kind.shape_names h2
    rw [hk] at hn
    rw [Kind.tn_eq, Kind.tp_eq, Kind.parts_eq, hk]
    simp [Kind.tnS, Kind.tpS, Kind.partsS] at *
    omega
  | f + 1, x, lv, hf, h => by
    obtain ⟨h1, h2, h3⟩ := (Kind.good_iff x lv).1 h
    have hn := Kind.shape_names h2
    have hs := Kind.tnS_good (c := 70 * 3 ^ f) x.kids (lv + 1) (fun y _ hy => Kind.tn_good f y (lv + 1) (by omega) hy) h3
    have h3f : 1 ≤ 3 ^ (f + 1) := Nat.one_le_pow _ _ (by omega)
    have e1 : 70 * 3 ^ (f + 1) * Kind.partsS x.kids = 3 * (70 * 3 ^ f * Kind.partsS x.kids) := by
      have e2 : 70 * 3 ^ (f + 1) = 3 * (70 * 3 ^ f) := by rw [Nat.pow_succ]; omega
      rw [e2, Nat.mul_assoc]
    have e3 : 70 * 3 ^ (f + 1) * (1 + Kind.partsS x.kids) = 70 * 3 ^ (f + 1) + 3 * (70 * 3 ^ f * Kind.partsS x.kids) := by rw [Nat.mul_add, Nat.mul_one, e1]
    rw [Kind.tn_eq, Kind.tp_eq, Kind.parts_eq, e3]
    omega
/-- a schema that is ok: what is drawn of it is small -/
theorem Kind.tn_ok {x : Kind} (h : x.ok) : x.tn ≤ 680400 ∧ x.tp ≤ 680400 := by
  have h1 : x.good 1 := h.1
  have h2 : (0 : Int) + x.parts ≤ 40 := h.2
  have := Kind.tn_good 5 x 1 rfl h1
  have e : 70 * 3 ^ 5 * x.parts = 17010 * x.parts := rfl
  omega

/-! ### Numbers and texts -/
def NumDr (g : Nat) (L : List UInt8) (k : Nat) (w : World) (e : Ending) (w' : World) : Prop :=
  ∃ (n : Int) (k' : Nat), e = .returned (.int .i64 n) ∧ -10000000000 ≤ n ∧ n ≤ 10000000000 ∧ k' ≤ k + 3 ∧ RdD w' g L k' ∧ w.grownBy w' (some g)
def TextDr (g : Nat) (L : List UInt8) (k : Nat) (w : World) (e : Ending) (w' : World) : Prop :=
  ∃ (s : ByteArray) (k' : Nat), e = .returned (.string s) ∧ s.size ≤ 60 ∧ k' ≤ k + 2 ∧ RdD w' g L k' ∧ w.grownBy w' (some g)
set_option maxRecDepth 100000 in
set_option maxHeartbeats 2000000 in
theorem l5Num_any {L : List UInt8} {k g : Nat} {w : World} (h : RdD w g L k) (hk : k ≤ 100000000) :
    Calls Tryz.prog 108 #[.pointer (some ⟨g, 0, none⟩)] w (NumDr g L k w) := by
  have HP := hide (pick_any h (n := 9) (by omega) (by omega) (by omega))
  clear h
  go_enter Tryz.func108, Tryz.ntmps108
  go_wp2_with fail
  refine HP.out.mono ?_
  rintro e w2 ⟨r, rfl, hr, h2, hg2⟩
  have H2 := hide h2
  have HG := hide hg2
  clear h2 hg2 HP
  by_cases h0 : r = 0
  · subst h0
    go_wp2
    go_ret
    exact ⟨999999999, k + 1, rfl, by omega, by omega, by omega, H2.out, HG.out⟩
  by_cases h1 : r = 1
  · subst h1
    go_wp2
    go_ret
    exact ⟨-999999999, k + 1, rfl, by omega, by omega, by omega, H2.out, HG.out⟩
  have i0 : ¬ ((r : Int) = 0) := by omega
  have i1 : ¬ ((r : Int) = 1) := by omega
  clear h0 h1
  by_cases h2 : r = 2
  · subst h2
    have HP1 := hide (pick_any H2.out (n := 250) (by omega) (by omega) (by omega))
    clear i0 i1
    go_wp2_with fail
    refine HP1.out.mono ?_
    rintro e w3 ⟨a, rfl, ha, h3, hg3⟩
    have HP2 := hide (pick_any h3 (n := 200) (by omega) (by omega) (by omega))
    have HG3 := hide (only_trans HG.out hg3)
    clear h3 hg3
    go_wp2_with fail
    refine HP2.out.mono ?_
    rintro e w4 ⟨b, rfl, hb, h4, hg4⟩
    have H4 := hide h4
    have HG4 := hide (only_trans HG3.out hg4)
    clear h4 hg4
    go_wp2
    go_ret
    exact ⟨(a : Int) * 4000000 + (b : Int), k + 3, rfl, by omega, by omega, by omega, H4.out, HG4.out⟩
  have i2 : ¬ ((r : Int) = 2) := by omega
  clear h2
  by_cases h3 : r = 3
  · subst h3
    have HP1 := hide (pick_any H2.out (n := 2) (by omega) (by omega) (by omega))
    clear i0 i1 i2
    go_wp2_with fail
    refine HP1.out.mono ?_
    rintro e w3 ⟨a, rfl, ha, h3, hg3⟩
    have H3 := hide h3
    have HG3 := hide (only_trans HG.out hg3)
    clear h3 hg3
    go_wp2
    go_ret
    exact ⟨127 + (a : Int), k + 2, rfl, by omega, by omega, by omega, H3.out, HG3.out⟩
  have i3 : ¬ ((r : Int) = 3) := by omega
  clear h3
  have HP1 := hide (pick_any H2.out (n := 12) (by omega) (by omega) (by omega))
  go_wp2_with fail
  refine HP1.out.mono ?_
  rintro e w3 ⟨a, rfl, ha, h3, hg3⟩
  have H3 := hide h3
  have HG3 := hide (only_trans HG.out hg3)
  clear h3 hg3
  go_wp2
  go_ret
  exact ⟨(a : Int) - 3, k + 2, rfl, by omega, by omega, by omega, H3.out, HG3.out⟩
def drawTexts : List ByteArray := [⟨#[]⟩, ⟨#[97]⟩, ⟨#[97, 98]⟩, ⟨#[120, 32, 121]⟩, ⟨#[121, 101, 115]⟩, ⟨#[110, 111]⟩, ⟨#[126]⟩, ⟨#[49, 50]⟩, ⟨#[45, 51]⟩, ⟨#[97, 44, 98, 58, 99]⟩, ⟨#[91, 49, 93]⟩, ⟨#[108, 101, 102, 116]⟩, ⟨#[114, 105, 103, 104, 116]⟩]
theorem drawTexts_le : ∀ x ∈ drawTexts, x.size ≤ 60 := by
  intro x hx
  simp only [drawTexts, List.mem_cons, List.not_mem_nil, or_false] at hx
  rcases hx with rfl | rfl | rfl | rfl | rfl | rfl | rfl | rfl | rfl | rfl | rfl | rfl | rfl <;> decide
set_option maxRecDepth 100000 in
set_option maxHeartbeats 2000000 in
theorem l5Text_any {L : List UInt8} {k g : Nat} {w : World} (h : RdD w g L k) (hk : k ≤ 100000000) :
    Calls Tryz.prog 109 #[.pointer (some ⟨g, 0, none⟩)] w (TextDr g L k w) := by
  have hgw := h.lt
  have HP := hide (pick_any h (n := 30) (by omega) (by omega) (by omega))
  clear h
  go_enter Tryz.func109, Tryz.ntmps109
  go_wp2_with fail
  refine HP.out.mono ?_
  rintro e w2 ⟨r, rfl, hr, h2, hg2⟩
  have H2 := hide h2
  have HG := hide hg2
  have hgw2 := h2.lt
  clear h2 hg2 HP
  by_cases h0 : r = 0
  · subst h0
    have HM := hide (many_any ⟨#[120]⟩ 60 w2 (by decide) (by omega))
    go_wp2_with fail
    refine HM.out.mono ?_
    rintro e w3 ⟨o, rfl, ho, rfl⟩
    go_wp2
    go_ret
    exact ⟨o, k + 1, rfl, by omega, by omega, H2.out, HG.out⟩
  have i0 : ¬ ((r : Int) = 0) := by omega
  clear h0
  have hA : Below w2.heap.size w2 (w2.alloc (.cells (drawTexts.map Value.string).toArray 9)) := (Below.refl _ _).alloc (Nat.le_refl _) _
  have HOF := hide (of_any (H2.out.below hA) (by omega) drawTexts w2.heap.size 13 (by decide) (by decide) (by omega) (by rw [World.size_alloc]; omega) (fun j hj => by
    have h := (Row.new w2 9 (drawTexts.map Value.string)).cell j
    refine h.trans ?_
    rw [List.getElem?_map, List.getElem?_eq_getElem hj]
    rfl))
  have HG3 := hide (only_lowR HG.out hA HG.out.size)
  go_wp2_with fail
  refine HOF.out.mono ?_
  rintro e w3 ⟨x, hx, rfl, h3, hg3⟩
  have HX := hide (drawTexts_le x hx)
  have H3 := hide h3
  have HG4 := hide (only_trans HG3.out hg3)
  clear hx h3 hg3
  go_wp2
  go_ret
  exact ⟨x, k + 2, rfl, HX.out, by omega, H3.out, HG4.out⟩
end Go.Proofs.YtnaecdoeldoipaaGreatDoor
