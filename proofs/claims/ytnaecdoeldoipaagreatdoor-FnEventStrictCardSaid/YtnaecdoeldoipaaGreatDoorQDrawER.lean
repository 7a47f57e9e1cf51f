/-
  The draws of the reference: a text of an event, one in three bent. Printed by gen/evstrict.py.
-/
import Derived.Test.YtnaecdoeldoipaaGreatDoorQTrS5
import Derived.Test.YtnaecdoeldoipaaGreatDoorQBend
import Derived.Test.YtnaecdoeldoipaaGreatDoorQEvWrite
import Derived.Test.YtnaecdoeldoipaaGreatDoorQErS
set_option linter.unusedVariables false
set_option linter.unusedSimpArgs false
namespace Go.Proofs.YtnaecdoeldoipaaGreatDoor
open Go.ChangeShapes Go.WideShapes Go.ChangeAt Go.RowKit

theorem ewrite_size (t : Event) : t.write.size ≤ 9640 := by
  unfold Event.write
  by_cases h : t.ok
  · rw [if_pos (tb_true h)]
    exact eok_size h
  · rw [if_neg (by rw [tb_false h]; decide)]
    decide
def TextDrawnE (N : Nat) (w : World) (e : Ending) (w' : World) : Prop := ∃ t : ByteArray, e = .returned (.string t) ∧ t.size ≤ N ∧ Below w.heap.size w w'
set_option maxRecDepth 100000 in
set_option maxHeartbeats 1000000 in
theorem drawEventRead_any (l : List UInt8) (A : Option Addr) (n c : Nat) (fp : List Nat) (w : World) (ho : Ow w (.s 1 l.length (l.flatMap byteC)) (.slice A n c) fp) (hf : Lt fp w.heap.size) (hsz : l.length ≤ 1048576) :
    Calls Tryz.prog 40 #[.slice A n c] w (TextDrawnE 20000 w) := by
  have HP := hide (open_any l A n c fp w ho hf hsz)
  clear ho
  go_enter Tryz.func40, Tryz.ntmps40
  go_wp2_with fail
  refine HP.out.mono ?_
  rintro e w1 ⟨L, rfl, hr1, hb1⟩
  have HP1 := hide (pick_any hr1 (n := 20) (by omega) (by omega) (by omega))
  have HB1 := hide hb1
  clear hr1 hb1 HP
  go_wp2_with fail
  refine HP1.out.mono ?_
  rintro e w2 ⟨v, rfl, hv, hr2, hg2⟩
  have HR2 := hide hr2
  have HB2 := hide (HB1.out.trans (below_of_grown hg2 (Nat.le_refl _) HB1.out.size))
  clear hr2 hg2 HP1 HB1
  by_cases h0 : v = 0
  · subst h0
    have HC := hide (lit_of HR2.out (by omega) ([⟨#[]⟩, ⟨#[111, 114, 100, 101, 114, 64, 49]⟩, ⟨#[111, 114, 100, 101, 114, 64, 48, 49, 123, 125]⟩, ⟨#[111, 114, 100, 101, 114, 64, 48, 123, 125]⟩, ⟨#[111, 114, 100, 101, 114, 64, 49, 51, 123, 125]⟩, ⟨#[64, 49, 123, 125]⟩, ⟨#[111, 114, 100, 101, 114, 64, 45, 49, 123, 125]⟩, ⟨#[111, 114, 100, 101, 114, 64, 49, 91, 93]⟩, ⟨#[111, 114, 100, 101, 114, 64, 49, 50, 123, 125]⟩, ⟨#[111, 114, 100, 101, 114, 32, 64, 49, 123, 125]⟩]) (by decide) (by decide))
    go_wp2_with fail
    refine HC.out.mono ?_
    rintro e w4 ⟨x, hx, rfl, hr4, hg4⟩
    have hx1 : x.size ≤ 20 := by
      simp only [List.mem_cons, List.not_mem_nil, or_false] at hx
      rcases hx with rfl | rfl | rfl | rfl | rfl | rfl | rfl | rfl | rfl | rfl
      all_goals decide
    have HX := hide hx1
    clear hx hx1
    go_wp2
    go_ret
    exact ⟨x, rfl, by have := HX.out; omega, HB2.out.trans (below_of_grown hg4 (Nat.le_refl _) HB2.out.size)⟩
  have h0i : ¬ ((v : Int) = 0) := by omega
  clear h0
  have HD := hide (l5Event_any HR2.out (by omega))
  go_wp2_with fail
  refine HD.out.mono ?_
  rintro e w3 ⟨x, us, fq, k3, rfl, ho3, hn3, hx3, hk3, hr3, hg3⟩
  have HW := hide (specEventWrite_any x us fq w3 ho3 hn3.lt (by omega))
  have HR3 := hide hr3
  have HB3 := hide (HB2.out.trans (below_of_grown hg3 (Nat.le_refl _) HB2.out.size))
  clear ho3 hn3 hr3 hg3 HD HR2 HB2
  go_wp2_with fail
  refine HW.out.mono ?_
  rintro e w4 ⟨rfl, hb4⟩
  have HS := hide (ewrite_size x)
  obtain ⟨s, hs⟩ : ∃ s, s = x.write := ⟨_, rfl⟩
  rw [← hs] at HS ⊢
  have HP4 := hide (pick_any (HR3.out.below hb4) (n := 3) (by omega) (by omega) (by omega))
  have HB4 := hide (HB3.out.trans (hb4.mono HB3.out.size))
  clear hs hb4 HW HR3 HB3
  go_wp2_with fail
  refine HP4.out.mono ?_
  rintro e w5 ⟨q, rfl, hq, hr5, hg5⟩
  have HR5 := hide hr5
  have HB5 := hide (HB4.out.trans (below_of_grown hg5 (Nat.le_refl _) HB4.out.size))
  clear hr5 hg5 HP4 HB4
  by_cases hq0 : q = 0
  · subst hq0
    have HC := hide (bend_any HR5.out (by omega) s (by have := HS.out; omega))
    go_wp2_with fail
    refine HC.out.mono ?_
    rintro e w6 ⟨t, k6, rfl, ht, hk6, hr6, hg6⟩
    have HT := hide ht
    clear ht
    go_wp2
    go_ret
    exact ⟨t, rfl, by have := HT.out; have := HS.out; omega, HB5.out.trans (below_of_grown hg6 (Nat.le_refl _) HB5.out.size)⟩
  · have hqi : ¬ ((q : Int) = 0) := by omega
    go_wp2
    go_ret
    exact ⟨s, rfl, by have := HS.out; omega, HB5.out⟩
end Go.Proofs.YtnaecdoeldoipaaGreatDoor
