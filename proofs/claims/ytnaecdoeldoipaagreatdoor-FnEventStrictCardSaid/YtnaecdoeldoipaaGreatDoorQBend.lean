/-
  The draws of the reference: a text that is bent.
-/
import Derived.Deep.RegionHeld3
import Derived.BigQuiet
import Derived.Test.YtnaecdoeldoipaaGreatDoorQSpoil0
import Derived.Test.YtnaecdoeldoipaaGreatDoorQDrawT
set_option linter.unusedVariables false
set_option linter.unusedSimpArgs false
namespace Go.Proofs.YtnaecdoeldoipaaGreatDoor
open Go.ChangeShapes Go.WideShapes Go.ChangeAt Go.RowKit

def BendOut (g : Nat) (L : List UInt8) (k N : Nat) (w : World) (e : Ending) (w' : World) : Prop := ∃ (t : ByteArray) (k' : Nat), e = .returned (.string t) ∧ t.size ≤ N ∧ k' ≤ k + 3 ∧ RdD w' g L k' ∧ w.grownBy w' (some g)
def LitOut (g : Nat) (L : List UInt8) (k : Nat) (l : List ByteArray) (w : World) (e : Ending) (w' : World) : Prop := ∃ x ∈ l, e = .returned (.string x) ∧ RdD w' g L (k + 1) ∧ w.grownBy w' (some g)
/-- one of some texts that are laid out just now -/
theorem lit_of {L : List UInt8} {k g : Nat} {W : World} (h : RdD W g L k) (hk : k ≤ 1000000000) (l : List ByteArray) (hl0 : 1 ≤ l.length) (hl : l.length ≤ 1000) :
    Calls Tryz.prog 49 #[.pointer (some ⟨g, 0, none⟩), .slice (some ⟨W.heap.size, 0, none⟩) l.length l.length] (W.alloc (.cells (l.map Value.string).toArray 9)) (LitOut g L k l W) := by
  have hA : Below W.heap.size W (W.alloc (.cells (l.map Value.string).toArray 9)) := (Below.refl _ _).alloc (Nat.le_refl _) _
  have hg := h.lt
  refine (of_any (h.below hA) hk l W.heap.size l.length hl0 hl (by omega) (by rw [World.size_alloc]; omega) (fun j hj => ?_)).mono ?_
  · rw [(Row.new W 9 (l.map Value.string)).cell j, List.getElem?_map, List.getElem?_eq_getElem hj]
    rfl
  · rintro e w' ⟨x, hx, rfl, hr, hgr⟩
    exact ⟨x, hx, rfl, hr, only_trans (grownBy_below hA (some g)) hgr⟩
set_option maxRecDepth 100000 in
set_option maxHeartbeats 2000000 in
theorem bend_any {L : List UInt8} {k g : Nat} {w : World} (h : RdD w g L k) (hk : k ≤ 100000000) (s : ByteArray) (hs : s.size ≤ 1000000) :
    Calls Tryz.prog 51 #[.pointer (some ⟨g, 0, none⟩), .string s] w (BendOut g L k (s.size + 2) w) := by
  have HR := hide h
  clear h
  by_cases h0 : s.size = 0
  · have h0i : (s.size : Int) = 0 := by omega
    have HC := hide (lit_of (W := w) HR.out (by omega) ([⟨#[32]⟩, ⟨#[48]⟩, ⟨#[123, 125]⟩] : List ByteArray) (by decide) (by decide))
    have HS := hide h0
    clear h0
    go_enter Tryz.func51, Tryz.ntmps51
    go_wp2_with fail
    refine HC.out.mono ?_
    rintro e w2 ⟨x, hx, rfl, hr2, hg2⟩
    have hx2 : x.size ≤ 2 := (by
    simp only [List.mem_cons, List.not_mem_nil, or_false] at hx
    rcases hx with rfl | rfl | rfl <;> decide)
    have HX := hide hx2
    clear hx hx2
    go_wp2
    go_ret
    exact ⟨x, k + 1, rfl, by have := HX.out; omega, by omega, hr2, hg2⟩
  have h0i : ¬ ((s.size : Int) = 0) := by omega
  have HP := hide (pick_any HR.out (n := s.size) (by omega) (by omega) (by omega))
  go_enter Tryz.func51, Tryz.ntmps51
  go_wp2_with fail
  refine HP.out.mono ?_
  rintro e w2 ⟨i, rfl, hi, hr2, hg2⟩
  have HP2 := hide (pick_any hr2 (n := 6) (by omega) (by omega) (by omega))
  have HG2 := hide hg2
  clear hr2 hg2 HP
  go_wp2_with fail
  refine HP2.out.mono ?_
  rintro e w3 ⟨v, rfl, hv, hr3, hg3⟩
  have HR3 := hide hr3
  have HG3 := hide (only_trans HG2.out hg3)
  clear hr3 hg3 HP2 HG2 HR
  have hi1 : (0 : Int) ≤ (i : Int) := by omega
  have hi2 : (i : Int) ≤ (s.size : Int) := by omega
  have hi3 : (i : Int) + 1 ≤ (s.size : Int) := by omega
  have hi4 : (0 : Int) ≤ (i : Int) + 1 := by omega
  have hw1 : IntKind.i64.wrap ((i : Int) + 1) = (i : Int) + 1 := wrapI _ (by omega) (by omega)
  have HE1 := hide (show (s.extract 0 i).size = i by rw [ByteArray.size_extract]; omega)
  have HE2 := hide (show (s.extract i s.size).size = s.size - i by rw [ByteArray.size_extract]; omega)
  have HE3 := hide (show (s.extract (i + 1) s.size).size = s.size - (i + 1) by rw [ByteArray.size_extract]; omega)
  have hv6 : v = 0 ∨ v = 1 ∨ v = 2 ∨ v = 3 ∨ v = 4 ∨ v = 5 := by omega
  clear hv
  rcases hv6 with rfl | rfl | rfl | rfl | rfl | rfl
  · go_wp2
    go_ret
    exact ⟨_, k + 2, rfl, by have := HE1.out; omega, by omega, HR3.out, HG3.out⟩
  · go_wp2
    go_quiet (fail)
    go_wp2
    go_ret
    exact ⟨_, k + 2, rfl, by rw [ByteArray.size_append]; have := HE1.out; have := HE3.out; omega, by omega, HR3.out.drewN _, only_drewN HG3.out _⟩
  · have HC := hide (lit_of (W := w3.drew) (HR3.out.drewN 1) (by omega) ([⟨#[32]⟩, ⟨#[44]⟩, ⟨#[48]⟩, ⟨#[45]⟩, ⟨#[34]⟩, ⟨#[126]⟩, ⟨#[63]⟩, ⟨#[93]⟩, ⟨#[125]⟩, ⟨#[97]⟩] : List ByteArray) (by decide) (by decide))
    go_wp2_with fail
    go_region_held3 (fun W => W.os = w3.os) (first | rfl | exact hos7)
      (first | (go_at_call 49; refine HC.out.mono ?_; rintro e w7 ⟨x, hx, rfl, hr7, hg7⟩; have hos7 : w7.os = w3.os := hg7.os; have hx1 : x.size ≤ 1 := (by    simp only [List.mem_cons, List.not_mem_nil, or_false] at hx; rcases hx with rfl | rfl | rfl | rfl | rfl | rfl | rfl | rfl | rfl | rfl <;> decide); have HX := hide hx1; have HR7 := hide hr7; have HG7 := hide (only_trans (only_drewN HG3.out 1) hg7); have n1 : ¬ (9223372036854775807 < min i s.size + x.size) := (by omega); have n2 : ¬ (9223372036854775807 < min i s.size + x.size + (s.size - i)) := (by omega); clear hx hr7 hg7 hx1))
    all_goals
      go_wp2
      go_ret
      exact ⟨_, k + 3, rfl, by rw [ByteArray.size_append, ByteArray.size_append]; have := HE1.out; have := HE2.out; have := HE3.out; have := HX.out; omega, Nat.le_refl _, HR7.out, HG7.out⟩
  · have HC := hide (lit_of (W := w3.drew) (HR3.out.drewN 1) (by omega) ([⟨#[32]⟩, ⟨#[44]⟩, ⟨#[48]⟩, ⟨#[45]⟩, ⟨#[34]⟩, ⟨#[126]⟩, ⟨#[63]⟩, ⟨#[91]⟩, ⟨#[123]⟩, ⟨#[97]⟩, ⟨#[57]⟩] : List ByteArray) (by decide) (by decide))
    go_wp2_with fail
    go_region_held3 (fun W => W.os = w3.os) (first | rfl | exact hos7)
      (first | (go_at_call 49; refine HC.out.mono ?_; rintro e w7 ⟨x, hx, rfl, hr7, hg7⟩; have hos7 : w7.os = w3.os := hg7.os; have hx1 : x.size ≤ 1 := (by    simp only [List.mem_cons, List.not_mem_nil, or_false] at hx; rcases hx with rfl | rfl | rfl | rfl | rfl | rfl | rfl | rfl | rfl | rfl | rfl <;> decide); have HX := hide hx1; have HR7 := hide hr7; have HG7 := hide (only_trans (only_drewN HG3.out 1) hg7); have n1 : ¬ (9223372036854775807 < min i s.size + x.size) := (by omega); have n2 : ¬ (9223372036854775807 < min i s.size + x.size + (s.size - (i + 1))) := (by omega); clear hx hr7 hg7 hx1))
    all_goals
      go_wp2
      go_ret
      exact ⟨_, k + 3, rfl, by rw [ByteArray.size_append, ByteArray.size_append]; have := HE1.out; have := HE2.out; have := HE3.out; have := HX.out; omega, Nat.le_refl _, HR7.out, HG7.out⟩
  · have HC := hide (lit_of (W := w3) HR3.out (by omega) ([⟨#[32]⟩, ⟨#[44]⟩, ⟨#[48]⟩, ⟨#[125]⟩, ⟨#[10]⟩] : List ByteArray) (by decide) (by decide))
    go_wp2_with fail
    refine HC.out.mono ?_
    rintro e w7 ⟨x, hx, rfl, hr7, hg7⟩
    have hx1 : x.size ≤ 1 := (by
    simp only [List.mem_cons, List.not_mem_nil, or_false] at hx
    rcases hx with rfl | rfl | rfl | rfl | rfl <;> decide)
    have HX := hide hx1
    have HR7 := hide hr7
    have HG7 := hide (only_trans HG3.out hg7)
    have n1 : ¬ (9223372036854775807 < s.size + x.size) := by omega
    clear hx hr7 hg7 hx1
    go_wp2
    go_ret
    exact ⟨_, k + 3, rfl, by rw [ByteArray.size_append]; have := HX.out; omega, Nat.le_refl _, HR7.out, HG7.out⟩
  · have HC := hide (lit_of (W := w3) HR3.out (by omega) ([⟨#[32]⟩, ⟨#[43]⟩, ⟨#[48]⟩] : List ByteArray) (by decide) (by decide))
    go_wp2_with fail
    refine HC.out.mono ?_
    rintro e w7 ⟨x, hx, rfl, hr7, hg7⟩
    have hx1 : x.size ≤ 1 := (by
    simp only [List.mem_cons, List.not_mem_nil, or_false] at hx
    rcases hx with rfl | rfl | rfl <;> decide)
    have HX := hide hx1
    have HR7 := hide hr7
    have HG7 := hide (only_trans HG3.out hg7)
    have n1 : ¬ (9223372036854775807 < x.size + s.size) := by omega
    clear hx hr7 hg7 hx1
    go_wp2
    go_ret
    exact ⟨_, k + 3, rfl, by rw [ByteArray.size_append]; have := HX.out; omega, Nat.le_refl _, HR7.out, HG7.out⟩
end Go.Proofs.YtnaecdoeldoipaaGreatDoor
