/-
  The draws of the reference: texts.
-/
import Derived.Test.YtnaecdoeldoipaaGreatDoorKOwX
import Derived.Test.YtnaecdoeldoipaaGreatDoorKRdr
import Derived.Test.YtnaecdoeldoipaaGreatDoorKTreeTS
set_option linter.unusedVariables false
set_option linter.unusedSimpArgs false
namespace Go.Proofs.YtnaecdoeldoipaaGreatDoor
open Go.ChangeShapes Go.WideShapes Go.ChangeAt Go.RowKit

theorem half_mul (n s p q : Nat) (hp : n * s = p) (hq : n / 2 * (s + s) = q) : p = n % 2 * s + q := by
  subst hp hq
  have e : n = n % 2 + 2 * (n / 2) := by omega
  calc n * s = (n % 2 + 2 * (n / 2)) * s := by rw [← e]
    _ = n % 2 * s + n / 2 * (s + s) := by rw [Nat.add_mul, Nat.mul_assoc, Nat.mul_comm 2, Nat.mul_assoc, Nat.mul_comm s 2, Nat.two_mul]
set_option maxRecDepth 100000 in
set_option maxHeartbeats 1000000 in
theorem many_any (s : ByteArray) (n : Nat) (w : World) (hs : s.size = 1) (hn : n ≤ 10000) :
    Calls Tryz.prog 50 #[.string s, .int .i64 (n : Int)] w fun e w' => ∃ o : ByteArray, e = .returned (.string o) ∧ o.size = n ∧ w' = w := by
  go_enter Tryz.func50, Tryz.ntmps50
  go_wp2
  go_loopw [0, 1, 5] (fun sv nv ov wr => (∃ (s' : ByteArray) (n' : Nat) (o : ByteArray), sv = .string s' ∧ nv = .int .i64 (n' : Int) ∧ ov = .string o ∧ o.size + n' * s'.size = n ∧ n' ≤ n ∧ s'.size ≤ 20000 ∧ 0 < s'.size) ∧ wr = w) (fun _ nv _ _ => (intOf nv).toNat)
  case atStart => exact ⟨⟨s, n, .empty, rfl, rfl, rfl, by rw [hs]; show 0 + n * 1 = n; omega, Nat.le_refl _, by omega, by omega⟩, rfl⟩
  case round =>
    obtain ⟨⟨s', n', o, rfl, rfl, rfl, he, hnn, hss, hs0⟩, rfl⟩ := hrel
    by_cases h0 : n' = 0
    · subst h0
      have HE := hide (show o.size = n by omega)
      clear he
      go_wp2
      go_ret
      exact ⟨o, rfl, HE.out, rfl⟩
    · obtain ⟨p, hp⟩ : ∃ p, n' * s'.size = p := ⟨_, rfl⟩
      obtain ⟨q, hq⟩ : ∃ q, n' / 2 * (s'.size + s'.size) = q := ⟨_, rfl⟩
      obtain ⟨h, hh⟩ : ∃ h, n' / 2 = h := ⟨_, rfl⟩
      have hm := half_mul n' s'.size p q hp hq
      have hsp : s'.size ≤ p := by rw [← hp]; exact Nat.le_mul_of_pos_left _ (by omega)
      rw [hp] at he
      have hpos : (0 : Int) < (n' : Int) := by omega
      have t1 : Int.tdiv (n' : Int) 2 = (h : Int) := by rw [← hh]; exact (Int.ofNat_tdiv _ 2).symm
      have hhn : h ≤ n' ∧ h < n' := by omega
      have HQ := hide (show h * (s'.size + s'.size) = q by rw [← hh]; exact hq)
      have s1 : ¬ (9223372036854775807 < s'.size + s'.size) := by omega
      have s2 : ¬ (9223372036854775807 < o.size + s'.size) := by omega
      clear hp hq hh
      rcases Nat.mod_two_eq_zero_or_one n' with h2 | h2
      · have t2 : Int.tmod (n' : Int) 2 = 0 := by rw [show ((n' : Int)).tmod 2 = ((n' % 2 : Nat) : Int) from (Int.ofNat_tmod _ 2).symm, h2]; rfl
        rw [h2] at hm
        clear h2
        go_wp2
        go_roundw
        case rel => exact ⟨⟨s' ++ s', h, o, rfl, rfl, rfl, by rw [ByteArray.size_append, HQ.out]; omega, by omega, by rw [ByteArray.size_append]; omega, by rw [ByteArray.size_append]; omega⟩, by trivial⟩
        case measure => simp [intOf]; omega
      · have t2 : Int.tmod (n' : Int) 2 = 1 := by rw [show ((n' : Int)).tmod 2 = ((n' % 2 : Nat) : Int) from (Int.ofNat_tmod _ 2).symm, h2]; rfl
        rw [h2] at hm
        clear h2
        go_wp2
        go_roundw
        case rel => exact ⟨⟨s' ++ s', h, o ++ s', rfl, rfl, rfl, by rw [ByteArray.size_append, ByteArray.size_append, HQ.out]; omega, by omega, by rw [ByteArray.size_append]; omega, by rw [ByteArray.size_append]; omega⟩, by trivial⟩
        case measure => simp [intOf]; omega
def OfOut (g : Nat) (L : List UInt8) (k : Nat) (l : List ByteArray) (w : World) (e : Ending) (w' : World) : Prop :=
  ∃ x ∈ l, e = .returned (.string x) ∧ RdD w' g L (k + 1) ∧ w.grownBy w' (some g)
set_option maxRecDepth 100000 in
theorem of_any {L : List UInt8} {k g : Nat} {w : World} (h : RdD w g L k) (hk : k ≤ 1000000000) (l : List ByteArray) (gl c : Nat) (hl0 : 1 ≤ l.length) (hl : l.length ≤ 1000) (hgl : gl ≠ g) (hlt : gl < w.heap.size) (hc : ∀ j (hj : j < l.length), w.cell? ⟨gl, j, none⟩ = some (.string l[j])) :
    Calls Tryz.prog 49 #[.pointer (some ⟨g, 0, none⟩), .slice (some ⟨gl, 0, none⟩) l.length c] w (OfOut g L k l w) := by
  have HP := hide (pick_any h hk hl0 (by omega))
  have HC := hide hc
  clear h hc
  go_enter Tryz.func49, Tryz.ntmps49
  go_wp2_with fail
  refine HP.out.mono ?_
  rintro e w2 ⟨r, rfl, hr, h2, hg2⟩
  have hcell := (World.cell?_of_block (a := ⟨gl, r, none⟩) (hg2.block gl hlt (fun e => by injection e with e; exact hgl e))).trans (HC.out r hr)
  have HM := hide (List.getElem_mem hr)
  have H2 := hide h2
  have HG := hide hg2
  have hl2 := Nat.lt_of_lt_of_le hlt hg2.size
  generalize l[r] = x at *
  clear h2 hg2
  have hrI : (r : Int) < (l.length : Int) := by omega
  go_wp2
  go_ret
  exact ⟨x, HM.out, rfl, H2.out, HG.out⟩
end Go.Proofs.YtnaecdoeldoipaaGreatDoor
