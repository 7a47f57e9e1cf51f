/-
  The reference's reader of trees: num, text.
-/
import Derived.Test.YtnaecdoeldoipaaGreatDoorTrL
import Derived.Test.YtnaecdoeldoipaaGreatDoorRkS
import Derived.BigQuiet
import Derived.Deep.RegionHeld3
import Derived.StillTailTactics
import Derived.Deep.Cut
import Derived.Deep.CutRange
import Derived.Deep.DeepCutAuto
set_option linter.unusedVariables false
set_option linter.unusedSimpArgs false
namespace Go.Proofs.YtnaecdoeldoipaaGreatDoor
open Go.ChangeShapes Go.WideShapes Go.ChangeAt Go.RowKit

theorem numK_stop' (k : Nat) (acc : Int) (l : List UInt8) (h : ¬ (48 ≤ (l.headD 0).toNat ∧ (l.headD 0).toNat ≤ 57)) : numK k acc l = (acc, 0) := by
  cases k with
  | zero => rfl
  | succ k =>
    cases l with
    | nil => rfl
    | cons b r =>
      simp only [List.headD_cons] at h
      unfold numK
      rw [if_neg h]
theorem numK_more' (k : Nat) (acc : Int) (l : List UInt8) (h : 48 ≤ (l.headD 0).toNat ∧ (l.headD 0).toNat ≤ 57) : numK (k + 1) acc l = ((numK k (acc * 10 + (((l.headD 0).toNat : Int) - 48)) (l.drop 1)).1, (numK k (acc * 10 + (((l.headD 0).toNat : Int) - 48)) (l.drop 1)).2 + 1) := by
  cases l with
  | nil => exact absurd h.1 (by decide)
  | cons b r =>
    simp only [List.headD_cons] at h
    rw [numK, if_pos h]
    rfl
theorem pow10_le (j : Nat) (h : j ≤ 10) : (10 : Int) ^ j ≤ 10000000000 := by
  have : j = 0 ∨ j = 1 ∨ j = 2 ∨ j = 3 ∨ j = 4 ∨ j = 5 ∨ j = 6 ∨ j = 7 ∨ j = 8 ∨ j = 9 ∨ j = 10 := by omega
  rcases this with rfl | rfl | rfl | rfl | rfl | rfl | rfl | rfl | rfl | rfl | rfl <;> decide
theorem u8_sub' (z : Int) (h0 : 48 ≤ z) (h1 : z ≤ 57) : IntKind.u8.wrap (z - 48) = z - 48 := by
  have e : IntKind.u8.wrap (z - 48) = (z - 48) % 256 := rfl
  rw [e]
  omega
/-- so many digits were read -/
def NumAt (l : List UInt8) (j : Nat) (acc : Int) : Prop := j ≤ 10 ∧ j ≤ l.length ∧ (0 ≤ acc ∧ acc + 1 ≤ 10 ^ j) ∧ numK 10 0 l = ((numK (10 - j) acc (l.drop j)).1, (numK (10 - j) acc (l.drop j)).2 + j)
theorem NumAt.start (l : List UInt8) : NumAt l 0 0 := ⟨by omega, by omega, ⟨by decide, by decide⟩, rfl⟩
theorem NumAt.bd {l : List UInt8} {j : Nat} {acc : Int} (h : NumAt l j acc) : 0 ≤ acc ∧ acc ≤ 9999999999 := by
  have := pow10_le j h.1
  have := h.2.2.1
  omega
theorem NumAt.lt {l : List UInt8} {j : Nat} {acc : Int} (h : NumAt l j acc) (hj : j < 10) : acc ≤ 999999999 := by
  have h1 := h.2.2.1.2
  have h2 : (10 : Int) ^ j ≤ 1000000000 := by
    have : j = 0 ∨ j = 1 ∨ j = 2 ∨ j = 3 ∨ j = 4 ∨ j = 5 ∨ j = 6 ∨ j = 7 ∨ j = 8 ∨ j = 9 := by omega
    rcases this with rfl | rfl | rfl | rfl | rfl | rfl | rfl | rfl | rfl | rfl <;> decide
  omega
theorem NumAt.stop {l : List UInt8} {j : Nat} {acc : Int} (h : NumAt l j acc) (hs : j = 10 ∨ ¬ (48 ≤ ((l.drop j).headD 0).toNat ∧ ((l.drop j).headD 0).toNat ≤ 57)) : numK 10 0 l = (acc, j) := by
  rw [h.2.2.2]
  rcases hs with rfl | hs
  · simp [numK]
  · rw [numK_stop' _ _ _ hs]
    simp
theorem NumAt.step {l : List UInt8} {j : Nat} {acc : Int} (h : NumAt l j acc) (hj : j < 10) (hs : 48 ≤ ((l.drop j).headD 0).toNat ∧ ((l.drop j).headD 0).toNat ≤ 57) : NumAt l (j + 1) (acc * 10 + ((((l.drop j).headD 0).toNat : Int) - 48)) := by
  obtain ⟨h1, h2, ⟨h3, h4⟩, h5⟩ := h
  have hne : j < l.length := by
    refine Nat.lt_of_not_le (fun hn => ?_)
    rw [List.drop_eq_nil_of_le hn] at hs
    exact absurd hs.1 (by decide)
  refine ⟨by omega, by omega, ⟨by omega, ?_⟩, ?_⟩
  · rw [Int.pow_succ]
    omega
  · rw [h5, show 10 - j = (10 - (j + 1)) + 1 by omega, numK_more' _ _ _ hs, List.drop_drop]
    simp only [Prod.mk.injEq]
    exact ⟨trivial, by omega⟩
def NumOutS (g : Nat) (s : ByteArray) (l : List UInt8) (w : World) (e : Ending) (w' : World) : Prop :=
  ∃ (n : Int) (l' : List UInt8) (bad' : Bool), e = .returned (.int .i64 n) ∧ (-9999999999 ≤ n ∧ n ≤ 9999999999) ∧ RdK w' g s 0 l' bad' ∧ NumTaken l false n l' bad' ∧ (l'.length ≤ l.length ∧ (bad' = false → l'.length < l.length)) ∧ w.grownBy w' (some g)
theorem num_taken_neg {l : List UInt8} {acc : Int} {j : Nat} (hc : l.headD 0 = 45) (hk : numK 10 0 (l.drop 1) = (acc, j)) : NumTaken l false (-acc) (l.drop (1 + j)) (decide (j = 0)) := by
  intro z R h1 hR _ e
  have h := numOf10_dec z h1 R hR
  rw [← e] at h
  unfold numOf10 at h
  rw [if_pos hc, hk, if_pos hc] at h
  simp only at h
  exact ⟨h.1, by simp; omega, h.2.1⟩
theorem num_taken_pos {l : List UInt8} {acc : Int} {j : Nat} (hc : ¬ l.headD 0 = 45) (hk : numK 10 0 l = (acc, j)) : NumTaken l false acc (l.drop j) (decide (j = 0)) := by
  intro z R h1 hR _ e
  have h := numOf10_dec z h1 R hR
  rw [← e] at h
  unfold numOf10 at h
  rw [if_neg hc, hk, if_neg hc] at h
  simp only at h
  exact ⟨h.1, by simp; omega, h.2.1⟩
def posMeas (w : World) (g size : Nat) : Nat := match w.cell? ⟨g, 1, none⟩ with
  | some (.int _ i) => size + 1 - i.toNat
  | _ => 0
theorem posMeas_eq {w : World} {g : Nat} {s : ByteArray} {n : Nat} {b : Bool} (h : Row w g 75 [.string s, .int .i64 (n : Int), .bool b]) : posMeas w g s.size = s.size + 1 - n := by
  unfold posMeas
  rw [h.cell 1]
  simp
set_option maxRecDepth 100000 in
set_option maxHeartbeats 4000000 in
theorem num1_any {s : ByteArray} {l : List UInt8} {g : Nat} {w : World} (h : RdK w g s 0 l false) :
    Calls Tryz.prog 66 #[.pointer (some ⟨g, 0, none⟩)] w (NumOutS g s l w) := by
  obtain ⟨n0, hr, hs, _, hn, hl⟩ := h
  have hn0 := hn rfl
  have HW0 := hide hr
  have HLS := hide hl
  have HLE := hide (show l.length + n0 = s.size from by rw [hl, List.length_drop, bl_len]; omega)
  have HLK := hide (look1_any (show RdK w g s 0 l false from ⟨n0, hr, hs, by omega, (fun _ => hn0), hl⟩) (by omega))
  obtain ⟨c, hc⟩ : ∃ c, l.headD 0 = c := ⟨_, rfl⟩
  have HCL := hide hc
  clear hr hl hn
  go_enter Tryz.func66, Tryz.ntmps66
  go_wp2_with fail
  refine HLK.out.mono ?_
  rintro e v0 ⟨rfl, q0, hv0⟩
  rw [hc]
  have HWz := hide (show Row v0 g 75 [.string s, .int .i64 (n0 : Int), .bool false] from by rw [hv0]; exact HW0.out.drewN q0)
  have HGz := hide (show w.grownBy v0 (some g) from by rw [hv0]; exact only_drewN (grown_refl w (some g)) q0)
  clear hv0 HLK HW0 hc
  have c0 := HWz.out.cell 0
  have c1 := HWz.out.cell 1
  have y1 := HWz.out.frozen 1
  have lg := HWz.out.lt
  by_cases hneg : c = 45
  · have hci : (c.toNat : Int) = 45 := by subst hneg; rfl
    have HC0 := hide (show l.headD 0 = 45 from HCL.out.trans hneg)
    have hl0 : 1 ≤ l.length := by
      cases l with
      | nil => exact absurd HC0.out (by decide)
      | cons a r => simp
    have hn1' : n0 + 1 ≤ s.size := by have := HLE.out; omega
    have k0 : IntKind.i64.wrap ((n0 : Int) + 1) = (n0 : Int) + 1 := wrapI _ (by omega) (by omega)
    clear hneg
    rw [hci]
    go_upto_region 6 with fail
    have HWy := hide (HWz.out.set 1 (.int .i64 ((n0 : Int) + 1)))
    have HGy := hide (only_setCell (p := ⟨g, 1, none⟩) HGz.out (.inl rfl) (.int .i64 ((n0 : Int) + 1)))
    clear c0 c1 y1 lg HWz HGz k0
    generalize (World.setCell _ _ _) = v1 at HWy HGy ⊢
    obtain ⟨n1, hn1⟩ : ∃ n1, n1 = n0 + 1 := ⟨_, rfl⟩
    have en : (n0 : Int) + 1 = (n1 : Int) := by omega
    rw [en]
    have HW1 := hide (show Row v1 g 75 [.string s, .int .i64 (n1 : Int), .bool false] from by have h := HWy.out; simp only [List.set_cons_succ, List.set_cons_zero] at h; rw [en] at h; exact h)
    have HG1 := HGy
    obtain ⟨l1, hl1⟩ : ∃ l1, l.drop 1 = l1 := ⟨_, rfl⟩
    have HLD := hide hl1.symm
    have HL1 := hide (show l1 = (bl s).drop n1 from by rw [← hl1, HLS.out, List.drop_drop, hn1]; first | done | rfl | (congr 1; omega))
    have HLEN := hide (show n1 + l1.length = s.size from by rw [← hl1, List.length_drop]; have := HLE.out; omega)
    have HN1 := hide hn1
    clear hl1 hn1 en HWy HGy HCL
    go_loopw [5] (fun nv wr => ∃ (j p : Nat) (acc : Int), nv = .int .i64 acc ∧ p = n1 + j ∧ NumAt l1 j acc ∧ Row wr g 75 [.string s, .int .i64 (p : Int), .bool false] ∧ w.grownBy wr (some g)) (fun _ wr => posMeas wr g s.size)
    case atStart => exact ⟨0, n1, 0, rfl, rfl, NumAt.start _, HW1.out, HG1.out⟩
    case round =>
      clear HW1 HG1
      obtain ⟨j, p, acc, rfl, hp, hn, hrow, hgr⟩ := hrel
      have HPJ := hide hp
      have HN := hide hn
      have HW := hide hrow
      have HG := hide hgr
      have hj10 := hn.1
      have hjl := hn.2.1
      have hab := hn.bd
      have HME := hide (posMeas_eq hrow)
      have hn1s : p ≤ s.size := by have := HLEN.out; omega
      have hn1b : n1 ≤ 10000 := by have := HLEN.out; omega
      clear hn hrow hgr hp
      obtain ⟨c, hc⟩ : ∃ c, (l1.drop j).headD 0 = c := ⟨_, rfl⟩
      have HCC := hide hc
      have hc256 := c.toNat_lt
      have HLK := hide (look1_any (show RdK wr g s 0 (l1.drop j) false from ⟨p, HW.out, hs, by omega, (fun _ => by omega), by rw [HL1.out, List.drop_drop, HPJ.out]⟩) (by omega))
      go_wp2_with fail
      refine HLK.out.mono ?_
      rintro e v2 ⟨rfl, q2, hv2⟩
      rw [hc]
      have HW2 := hide (show Row v2 g 75 [.string s, .int .i64 (p : Int), .bool false] from by rw [hv2]; exact HW.out.drewN q2)
      have HG2 := hide (show w.grownBy v2 (some g) from by rw [hv2]; exact only_drewN HG.out q2)
      clear hv2 HLK
      by_cases hlo : 48 ≤ (c.toNat : Int)
      rotate_left
      · clear hc
        have hk := HN.out.stop (.inr (fun h => hlo (by rw [HCC.out] at h; omega)))
        have HT := hide (show NumTaken l false (-acc) (l.drop (1 + j)) (decide (j = 0)) from num_taken_neg HC0.out (by rw [← HLD.out]; exact hk))
        have hab := HN.out.bd
        have HLL := hide (show (l.drop (1 + j)) = (bl s).drop p from by rw [HLS.out, List.drop_drop, HPJ.out]; first | done | rfl | (congr 1; have := HN1.out; omega))
        have HLN := hide (show (l.drop (1 + j)).length ≤ l.length ∧ (decide (j = 0) = false → (l.drop (1 + j)).length < l.length) from by
          have := HLE.out
          have hll : l1.length ≤ l.length := by rw [HLD.out]; first | exact Nat.le_refl _ | (rw [List.length_drop]; omega)
          rw [List.length_drop]
          refine ⟨by omega, fun h => ?_⟩
          have : ¬ j = 0 := by simpa using h
          omega)
        have hacn : IntKind.i64.wrap (-acc) = -acc := wrapI _ (by omega) (by omega)
        clear hk
        have c0 := HW2.out.cell 0
        have c1 := HW2.out.cell 1
        have c2 := HW2.out.cell 2
        have y1 := HW2.out.frozen 1
        have y2 := HW2.out.frozen 2
        have lg := HW2.out.lt
        by_cases hj0 : j = 0
        · subst hj0
          have hpn : p = n1 := by have := HPJ.out; omega
          have hpI : ((p : Int) == (n1 : Int)) = true := by rw [hpn]; simp
          have hpJ : (p : Int) = (n1 : Int) := by omega
          clear hpn
          go_wp2
          go_ret
          exact ⟨(-acc), (l.drop (1 + 0)), true, rfl, ⟨by omega, by omega⟩, ⟨p, HW2.out.set 2 _, hs, by omega, (fun h => by cases h), HLL.out⟩, HT.out, ⟨HLN.out.1, fun h => by cases h⟩, only_setCell (p := ⟨g, 2, none⟩) HG2.out (.inl rfl) _⟩
        · have hj1 : ¬ ((p : Int) = (n1 : Int)) := by have := HPJ.out; omega
          have hj2 : ((p : Int) == (n1 : Int)) = false := beq_eq_false_iff_ne.2 hj1
          have hdj : decide (j = 0) = false := by simpa using hj0
          have HT2 := hide (show NumTaken l false (-acc) (l.drop (1 + j)) false from by have h := HT.out; rw [hdj] at h; exact h)
          go_wp2
          go_ret
          exact ⟨(-acc), (l.drop (1 + j)), false, rfl, ⟨by omega, by omega⟩, ⟨p, HW2.out, hs, by omega, (fun _ => by omega), HLL.out⟩, HT2.out, ⟨HLN.out.1, fun _ => HLN.out.2 hdj⟩, HG2.out⟩
      have HLK := hide (look1_any (show RdK v2 g s 0 (l1.drop j) false from ⟨p, HW2.out, hs, by omega, (fun _ => by omega), by rw [HL1.out, List.drop_drop, HPJ.out]⟩) (by omega))
      go_wp2_with fail
      refine HLK.out.mono ?_
      rintro e v3 ⟨rfl, q3, hv3⟩
      rw [hc]
      have HW3 := hide (show Row v3 g 75 [.string s, .int .i64 (p : Int), .bool false] from by rw [hv3]; exact HW2.out.drewN q3)
      have HG3 := hide (show w.grownBy v3 (some g) from by rw [hv3]; exact only_drewN HG2.out q3)
      clear hv3 HLK
      by_cases hhi : (c.toNat : Int) ≤ 57
      rotate_left
      · clear hc
        have hk := HN.out.stop (.inr (fun h => hhi (by rw [HCC.out] at h; omega)))
        have HT := hide (show NumTaken l false (-acc) (l.drop (1 + j)) (decide (j = 0)) from num_taken_neg HC0.out (by rw [← HLD.out]; exact hk))
        have hab := HN.out.bd
        have HLL := hide (show (l.drop (1 + j)) = (bl s).drop p from by rw [HLS.out, List.drop_drop, HPJ.out]; first | done | rfl | (congr 1; have := HN1.out; omega))
        have HLN := hide (show (l.drop (1 + j)).length ≤ l.length ∧ (decide (j = 0) = false → (l.drop (1 + j)).length < l.length) from by
          have := HLE.out
          have hll : l1.length ≤ l.length := by rw [HLD.out]; first | exact Nat.le_refl _ | (rw [List.length_drop]; omega)
          rw [List.length_drop]
          refine ⟨by omega, fun h => ?_⟩
          have : ¬ j = 0 := by simpa using h
          omega)
        have hacn : IntKind.i64.wrap (-acc) = -acc := wrapI _ (by omega) (by omega)
        clear hk
        have c0 := HW3.out.cell 0
        have c1 := HW3.out.cell 1
        have c2 := HW3.out.cell 2
        have y1 := HW3.out.frozen 1
        have y2 := HW3.out.frozen 2
        have lg := HW3.out.lt
        by_cases hj0 : j = 0
        · subst hj0
          have hpn : p = n1 := by have := HPJ.out; omega
          have hpI : ((p : Int) == (n1 : Int)) = true := by rw [hpn]; simp
          have hpJ : (p : Int) = (n1 : Int) := by omega
          clear hpn
          go_wp2
          go_ret
          exact ⟨(-acc), (l.drop (1 + 0)), true, rfl, ⟨by omega, by omega⟩, ⟨p, HW3.out.set 2 _, hs, by omega, (fun h => by cases h), HLL.out⟩, HT.out, ⟨HLN.out.1, fun h => by cases h⟩, only_setCell (p := ⟨g, 2, none⟩) HG3.out (.inl rfl) _⟩
        · have hj1 : ¬ ((p : Int) = (n1 : Int)) := by have := HPJ.out; omega
          have hj2 : ((p : Int) == (n1 : Int)) = false := beq_eq_false_iff_ne.2 hj1
          have hdj : decide (j = 0) = false := by simpa using hj0
          have HT2 := hide (show NumTaken l false (-acc) (l.drop (1 + j)) false from by have h := HT.out; rw [hdj] at h; exact h)
          go_wp2
          go_ret
          exact ⟨(-acc), (l.drop (1 + j)), false, rfl, ⟨by omega, by omega⟩, ⟨p, HW3.out, hs, by omega, (fun _ => by omega), HLL.out⟩, HT2.out, ⟨HLN.out.1, fun _ => HLN.out.2 hdj⟩, HG3.out⟩
      have c0 := HW3.out.cell 0
      have c1 := HW3.out.cell 1
      have c2 := HW3.out.cell 2
      have y1 := HW3.out.frozen 1
      have y2 := HW3.out.frozen 2
      have lg := HW3.out.lt
      by_cases hj : j < 10
      rotate_left
      · have hjI : ¬ ((p : Int) < (n1 : Int) + 10) := by have := HPJ.out; omega
        clear c0 c1 c2 y1 y2 lg
        clear hc
        have hk := HN.out.stop (.inl (by omega))
        have HT := hide (show NumTaken l false (-acc) (l.drop (1 + j)) (decide (j = 0)) from num_taken_neg HC0.out (by rw [← HLD.out]; exact hk))
        have hab := HN.out.bd
        have HLL := hide (show (l.drop (1 + j)) = (bl s).drop p from by rw [HLS.out, List.drop_drop, HPJ.out]; first | done | rfl | (congr 1; have := HN1.out; omega))
        have HLN := hide (show (l.drop (1 + j)).length ≤ l.length ∧ (decide (j = 0) = false → (l.drop (1 + j)).length < l.length) from by
          have := HLE.out
          have hll : l1.length ≤ l.length := by rw [HLD.out]; first | exact Nat.le_refl _ | (rw [List.length_drop]; omega)
          rw [List.length_drop]
          refine ⟨by omega, fun h => ?_⟩
          have : ¬ j = 0 := by simpa using h
          omega)
        have hacn : IntKind.i64.wrap (-acc) = -acc := wrapI _ (by omega) (by omega)
        clear hk
        have c0 := HW3.out.cell 0
        have c1 := HW3.out.cell 1
        have c2 := HW3.out.cell 2
        have y1 := HW3.out.frozen 1
        have y2 := HW3.out.frozen 2
        have lg := HW3.out.lt
        have hj0 : ¬ j = 0 := by omega
        · have hj1 : ¬ ((p : Int) = (n1 : Int)) := by have := HPJ.out; omega
          have hj2 : ((p : Int) == (n1 : Int)) = false := beq_eq_false_iff_ne.2 hj1
          have hdj : decide (j = 0) = false := by simpa using hj0
          have HT2 := hide (show NumTaken l false (-acc) (l.drop (1 + j)) false from by have h := HT.out; rw [hdj] at h; exact h)
          go_wp2
          go_ret
          exact ⟨(-acc), (l.drop (1 + j)), false, rfl, ⟨by omega, by omega⟩, ⟨p, HW3.out, hs, by omega, (fun _ => by omega), HLL.out⟩, HT2.out, ⟨HLN.out.1, fun _ => HLN.out.2 hdj⟩, HG3.out⟩
      have hjI : (p : Int) < (n1 : Int) + 10 := by have := HPJ.out; omega
      have hac9 := HN.out.lt hj
      have HNS := hide (HN.out.step hj (by rw [HCC.out]; omega))
      rw [hc] at HNS
      go_upto_region 7 with fail
      clear c0 c1 c2 y1 y2 lg
      have HLK := hide (look1_any (show RdK v3 g s 0 (l1.drop j) false from ⟨p, HW3.out, hs, by omega, (fun _ => by omega), by rw [HL1.out, List.drop_drop, HPJ.out]⟩) (by omega))
      go_wp2_with fail
      refine HLK.out.mono ?_
      rintro e v4 ⟨rfl, q4, hv4⟩
      rw [hc]
      have HW4 := hide (show Row v4 g 75 [.string s, .int .i64 (p : Int), .bool false] from by rw [hv4]; exact HW3.out.drewN q4)
      have HG4 := hide (show w.grownBy v4 (some g) from by rw [hv4]; exact only_drewN HG3.out q4)
      clear hv4 HLK
      have hu := u8_sub' (c.toNat : Int) hlo hhi
      have k1 : IntKind.i64.wrap (acc * 10) = acc * 10 := wrapI _ (by omega) (by omega)
      have k2 : IntKind.i64.wrap (acc * 10 + ((c.toNat : Int) - 48)) = acc * 10 + ((c.toNat : Int) - 48) := wrapI _ (by omega) (by omega)
      have k3 : IntKind.i64.wrap ((c.toNat : Int) - 48) = (c.toNat : Int) - 48 := wrapI _ (by omega) (by omega)
      have k4 : IntKind.i64.wrap ((p : Int) + 1) = (p : Int) + 1 := wrapI _ (by omega) (by omega)
      have HW5 := hide (show Row (v4.setCell ⟨g, 1, none⟩ (.int .i64 ((p : Int) + 1))) g 75 [.string s, .int .i64 ((p + 1 : Nat) : Int), .bool false] from by rw [show ((p + 1 : Nat) : Int) = (p : Int) + 1 by omega]; exact HW4.out.set 1 _)
      have HG5 := hide (only_setCell (p := ⟨g, 1, none⟩) HG4.out (.inl rfl) (.int .i64 ((p : Int) + 1)))
      have c0 := HW4.out.cell 0
      have c1 := HW4.out.cell 1
      have c2 := HW4.out.cell 2
      have y1 := HW4.out.frozen 1
      have y2 := HW4.out.frozen 2
      have lg := HW4.out.lt
      clear hc
      go_wp2
      go_roundw
      case rel =>
        have hpj2 : p + 1 = n1 + (j + 1) := by have := HPJ.out; omega
        first | exact ⟨j + 1, p + 1, _, rfl, hpj2, HNS.out, HW5.out, HG5.out⟩ | exact ⟨_, _, _, _, _, _, _, _, _, _, _, _, _, _, _, _, _, _, _, _, _, _, _, _, _, _, _, _, _, _, _, _, _, ⟨j + 1, p + 1, acc * 10 + ((c.toNat : Int) - 48), by first | rfl | go_num | (congr 1; simp only [wrap64]; omega), hpj2, HNS.out, HW5.out, HG5.out⟩, rfl⟩
      case measure => rw [posMeas_eq HW5.out, HME.out]; have := HNS.out.2.1; have := HLEN.out; have := HPJ.out; omega
  · have hci : ¬ ((c.toNat : Int) = 45) := fun e => hneg (UInt8.toNat_inj.1 (show c.toNat = 45 from by omega))
    have HC0 := hide (show ¬ l.headD 0 = 45 from fun e => hneg (HCL.out.symm.trans e))
    have hcb : ((c.toNat : Int) == 45) = false := beq_eq_false_iff_ne.2 hci
    clear hneg
    go_upto_region 6 with fail
    obtain ⟨n1, hn1⟩ : ∃ n1, n1 = n0 := ⟨_, rfl⟩
    rw [← hn1] at HWz HLS HLE hn0 ⊢
    have HW1 := hide (show Row v0 g 75 [.string s, .int .i64 (n1 : Int), .bool false] from HWz.out)
    have HG1 := HGz
    obtain ⟨l1, hl1⟩ : ∃ l1, l = l1 := ⟨_, rfl⟩
    have HLD := hide hl1.symm
    have HL1 := hide (show l1 = (bl s).drop n1 from by rw [← hl1, HLS.out])
    have HLEN := hide (show n1 + l1.length = s.size from by rw [← hl1]; have := HLE.out; omega)
    have HN1 := hide (show n1 = n1 from rfl)
    clear c0 c1 y1 lg hl1 hn1 HWz HGz HCL
    go_loopw [5] (fun nv wr => ∃ (j p : Nat) (acc : Int), nv = .int .i64 acc ∧ p = n1 + j ∧ NumAt l1 j acc ∧ Row wr g 75 [.string s, .int .i64 (p : Int), .bool false] ∧ w.grownBy wr (some g)) (fun _ wr => posMeas wr g s.size)
    case atStart => exact ⟨0, n1, 0, rfl, rfl, NumAt.start _, HW1.out, HG1.out⟩
    case round =>
      clear HW1 HG1
      obtain ⟨j, p, acc, rfl, hp, hn, hrow, hgr⟩ := hrel
      have HPJ := hide hp
      have HN := hide hn
      have HW := hide hrow
      have HG := hide hgr
      have hj10 := hn.1
      have hjl := hn.2.1
      have hab := hn.bd
      have HME := hide (posMeas_eq hrow)
      have hn1s : p ≤ s.size := by have := HLEN.out; omega
      have hn1b : n1 ≤ 10000 := by have := HLEN.out; omega
      clear hn hrow hgr hp
      obtain ⟨c, hc⟩ : ∃ c, (l1.drop j).headD 0 = c := ⟨_, rfl⟩
      have HCC := hide hc
      have hc256 := c.toNat_lt
      have HLK := hide (look1_any (show RdK wr g s 0 (l1.drop j) false from ⟨p, HW.out, hs, by omega, (fun _ => by omega), by rw [HL1.out, List.drop_drop, HPJ.out]⟩) (by omega))
      go_wp2_with fail
      refine HLK.out.mono ?_
      rintro e v2 ⟨rfl, q2, hv2⟩
      rw [hc]
      have HW2 := hide (show Row v2 g 75 [.string s, .int .i64 (p : Int), .bool false] from by rw [hv2]; exact HW.out.drewN q2)
      have HG2 := hide (show w.grownBy v2 (some g) from by rw [hv2]; exact only_drewN HG.out q2)
      clear hv2 HLK
      by_cases hlo : 48 ≤ (c.toNat : Int)
      rotate_left
      · clear hc
        have hk := HN.out.stop (.inr (fun h => hlo (by rw [HCC.out] at h; omega)))
        have HT := hide (show NumTaken l false acc (l.drop j) (decide (j = 0)) from num_taken_pos HC0.out (by rw [← HLD.out]; exact hk))
        have hab := HN.out.bd
        have HLL := hide (show (l.drop j) = (bl s).drop p from by rw [HLS.out, List.drop_drop, HPJ.out]; first | done | rfl | (congr 1; have := HN1.out; omega))
        have HLN := hide (show (l.drop j).length ≤ l.length ∧ (decide (j = 0) = false → (l.drop j).length < l.length) from by
          have := HLE.out
          have hll : l1.length ≤ l.length := by rw [HLD.out]; first | exact Nat.le_refl _ | (rw [List.length_drop]; omega)
          rw [List.length_drop]
          refine ⟨by omega, fun h => ?_⟩
          have : ¬ j = 0 := by simpa using h
          omega)
        have hacn : IntKind.i64.wrap (-acc) = -acc := wrapI _ (by omega) (by omega)
        clear hk
        have c0 := HW2.out.cell 0
        have c1 := HW2.out.cell 1
        have c2 := HW2.out.cell 2
        have y1 := HW2.out.frozen 1
        have y2 := HW2.out.frozen 2
        have lg := HW2.out.lt
        by_cases hj0 : j = 0
        · subst hj0
          have hpn : p = n1 := by have := HPJ.out; omega
          have hpI : ((p : Int) == (n1 : Int)) = true := by rw [hpn]; simp
          have hpJ : (p : Int) = (n1 : Int) := by omega
          clear hpn
          go_wp2
          go_ret
          exact ⟨acc, (l.drop 0), true, rfl, ⟨by omega, by omega⟩, ⟨p, HW2.out.set 2 _, hs, by omega, (fun h => by cases h), HLL.out⟩, HT.out, ⟨HLN.out.1, fun h => by cases h⟩, only_setCell (p := ⟨g, 2, none⟩) HG2.out (.inl rfl) _⟩
        · have hj1 : ¬ ((p : Int) = (n1 : Int)) := by have := HPJ.out; omega
          have hj2 : ((p : Int) == (n1 : Int)) = false := beq_eq_false_iff_ne.2 hj1
          have hdj : decide (j = 0) = false := by simpa using hj0
          have HT2 := hide (show NumTaken l false acc (l.drop j) false from by have h := HT.out; rw [hdj] at h; exact h)
          go_wp2
          go_ret
          exact ⟨acc, (l.drop j), false, rfl, ⟨by omega, by omega⟩, ⟨p, HW2.out, hs, by omega, (fun _ => by omega), HLL.out⟩, HT2.out, ⟨HLN.out.1, fun _ => HLN.out.2 hdj⟩, HG2.out⟩
      have HLK := hide (look1_any (show RdK v2 g s 0 (l1.drop j) false from ⟨p, HW2.out, hs, by omega, (fun _ => by omega), by rw [HL1.out, List.drop_drop, HPJ.out]⟩) (by omega))
      go_wp2_with fail
      refine HLK.out.mono ?_
      rintro e v3 ⟨rfl, q3, hv3⟩
      rw [hc]
      have HW3 := hide (show Row v3 g 75 [.string s, .int .i64 (p : Int), .bool false] from by rw [hv3]; exact HW2.out.drewN q3)
      have HG3 := hide (show w.grownBy v3 (some g) from by rw [hv3]; exact only_drewN HG2.out q3)
      clear hv3 HLK
      by_cases hhi : (c.toNat : Int) ≤ 57
      rotate_left
      · clear hc
        have hk := HN.out.stop (.inr (fun h => hhi (by rw [HCC.out] at h; omega)))
        have HT := hide (show NumTaken l false acc (l.drop j) (decide (j = 0)) from num_taken_pos HC0.out (by rw [← HLD.out]; exact hk))
        have hab := HN.out.bd
        have HLL := hide (show (l.drop j) = (bl s).drop p from by rw [HLS.out, List.drop_drop, HPJ.out]; first | done | rfl | (congr 1; have := HN1.out; omega))
        have HLN := hide (show (l.drop j).length ≤ l.length ∧ (decide (j = 0) = false → (l.drop j).length < l.length) from by
          have := HLE.out
          have hll : l1.length ≤ l.length := by rw [HLD.out]; first | exact Nat.le_refl _ | (rw [List.length_drop]; omega)
          rw [List.length_drop]
          refine ⟨by omega, fun h => ?_⟩
          have : ¬ j = 0 := by simpa using h
          omega)
        have hacn : IntKind.i64.wrap (-acc) = -acc := wrapI _ (by omega) (by omega)
        clear hk
        have c0 := HW3.out.cell 0
        have c1 := HW3.out.cell 1
        have c2 := HW3.out.cell 2
        have y1 := HW3.out.frozen 1
        have y2 := HW3.out.frozen 2
        have lg := HW3.out.lt
        by_cases hj0 : j = 0
        · subst hj0
          have hpn : p = n1 := by have := HPJ.out; omega
          have hpI : ((p : Int) == (n1 : Int)) = true := by rw [hpn]; simp
          have hpJ : (p : Int) = (n1 : Int) := by omega
          clear hpn
          go_wp2
          go_ret
          exact ⟨acc, (l.drop 0), true, rfl, ⟨by omega, by omega⟩, ⟨p, HW3.out.set 2 _, hs, by omega, (fun h => by cases h), HLL.out⟩, HT.out, ⟨HLN.out.1, fun h => by cases h⟩, only_setCell (p := ⟨g, 2, none⟩) HG3.out (.inl rfl) _⟩
        · have hj1 : ¬ ((p : Int) = (n1 : Int)) := by have := HPJ.out; omega
          have hj2 : ((p : Int) == (n1 : Int)) = false := beq_eq_false_iff_ne.2 hj1
          have hdj : decide (j = 0) = false := by simpa using hj0
          have HT2 := hide (show NumTaken l false acc (l.drop j) false from by have h := HT.out; rw [hdj] at h; exact h)
          go_wp2
          go_ret
          exact ⟨acc, (l.drop j), false, rfl, ⟨by omega, by omega⟩, ⟨p, HW3.out, hs, by omega, (fun _ => by omega), HLL.out⟩, HT2.out, ⟨HLN.out.1, fun _ => HLN.out.2 hdj⟩, HG3.out⟩
      have c0 := HW3.out.cell 0
      have c1 := HW3.out.cell 1
      have c2 := HW3.out.cell 2
      have y1 := HW3.out.frozen 1
      have y2 := HW3.out.frozen 2
      have lg := HW3.out.lt
      by_cases hj : j < 10
      rotate_left
      · have hjI : ¬ ((p : Int) < (n1 : Int) + 10) := by have := HPJ.out; omega
        clear c0 c1 c2 y1 y2 lg
        clear hc
        have hk := HN.out.stop (.inl (by omega))
        have HT := hide (show NumTaken l false acc (l.drop j) (decide (j = 0)) from num_taken_pos HC0.out (by rw [← HLD.out]; exact hk))
        have hab := HN.out.bd
        have HLL := hide (show (l.drop j) = (bl s).drop p from by rw [HLS.out, List.drop_drop, HPJ.out]; first | done | rfl | (congr 1; have := HN1.out; omega))
        have HLN := hide (show (l.drop j).length ≤ l.length ∧ (decide (j = 0) = false → (l.drop j).length < l.length) from by
          have := HLE.out
          have hll : l1.length ≤ l.length := by rw [HLD.out]; first | exact Nat.le_refl _ | (rw [List.length_drop]; omega)
          rw [List.length_drop]
          refine ⟨by omega, fun h => ?_⟩
          have : ¬ j = 0 := by simpa using h
          omega)
        have hacn : IntKind.i64.wrap (-acc) = -acc := wrapI _ (by omega) (by omega)
        clear hk
        have c0 := HW3.out.cell 0
        have c1 := HW3.out.cell 1
        have c2 := HW3.out.cell 2
        have y1 := HW3.out.frozen 1
        have y2 := HW3.out.frozen 2
        have lg := HW3.out.lt
        have hj0 : ¬ j = 0 := by omega
        · have hj1 : ¬ ((p : Int) = (n1 : Int)) := by have := HPJ.out; omega
          have hj2 : ((p : Int) == (n1 : Int)) = false := beq_eq_false_iff_ne.2 hj1
          have hdj : decide (j = 0) = false := by simpa using hj0
          have HT2 := hide (show NumTaken l false acc (l.drop j) false from by have h := HT.out; rw [hdj] at h; exact h)
          go_wp2
          go_ret
          exact ⟨acc, (l.drop j), false, rfl, ⟨by omega, by omega⟩, ⟨p, HW3.out, hs, by omega, (fun _ => by omega), HLL.out⟩, HT2.out, ⟨HLN.out.1, fun _ => HLN.out.2 hdj⟩, HG3.out⟩
      have hjI : (p : Int) < (n1 : Int) + 10 := by have := HPJ.out; omega
      have hac9 := HN.out.lt hj
      have HNS := hide (HN.out.step hj (by rw [HCC.out]; omega))
      rw [hc] at HNS
      go_upto_region 7 with fail
      clear c0 c1 c2 y1 y2 lg
      have HLK := hide (look1_any (show RdK v3 g s 0 (l1.drop j) false from ⟨p, HW3.out, hs, by omega, (fun _ => by omega), by rw [HL1.out, List.drop_drop, HPJ.out]⟩) (by omega))
      go_wp2_with fail
      refine HLK.out.mono ?_
      rintro e v4 ⟨rfl, q4, hv4⟩
      rw [hc]
      have HW4 := hide (show Row v4 g 75 [.string s, .int .i64 (p : Int), .bool false] from by rw [hv4]; exact HW3.out.drewN q4)
      have HG4 := hide (show w.grownBy v4 (some g) from by rw [hv4]; exact only_drewN HG3.out q4)
      clear hv4 HLK
      have hu := u8_sub' (c.toNat : Int) hlo hhi
      have k1 : IntKind.i64.wrap (acc * 10) = acc * 10 := wrapI _ (by omega) (by omega)
      have k2 : IntKind.i64.wrap (acc * 10 + ((c.toNat : Int) - 48)) = acc * 10 + ((c.toNat : Int) - 48) := wrapI _ (by omega) (by omega)
      have k3 : IntKind.i64.wrap ((c.toNat : Int) - 48) = (c.toNat : Int) - 48 := wrapI _ (by omega) (by omega)
      have k4 : IntKind.i64.wrap ((p : Int) + 1) = (p : Int) + 1 := wrapI _ (by omega) (by omega)
      have HW5 := hide (show Row (v4.setCell ⟨g, 1, none⟩ (.int .i64 ((p : Int) + 1))) g 75 [.string s, .int .i64 ((p + 1 : Nat) : Int), .bool false] from by rw [show ((p + 1 : Nat) : Int) = (p : Int) + 1 by omega]; exact HW4.out.set 1 _)
      have HG5 := hide (only_setCell (p := ⟨g, 1, none⟩) HG4.out (.inl rfl) (.int .i64 ((p : Int) + 1)))
      have c0 := HW4.out.cell 0
      have c1 := HW4.out.cell 1
      have c2 := HW4.out.cell 2
      have y1 := HW4.out.frozen 1
      have y2 := HW4.out.frozen 2
      have lg := HW4.out.lt
      clear hc
      go_wp2
      go_roundw
      case rel =>
        have hpj2 : p + 1 = n1 + (j + 1) := by have := HPJ.out; omega
        first | exact ⟨j + 1, p + 1, _, rfl, hpj2, HNS.out, HW5.out, HG5.out⟩ | exact ⟨_, _, _, _, _, _, _, _, _, _, _, _, _, _, _, _, _, _, _, _, _, _, _, _, _, _, _, _, _, _, _, _, _, ⟨j + 1, p + 1, acc * 10 + ((c.toNat : Int) - 48), by first | rfl | go_num | (congr 1; simp only [wrap64]; omega), hpj2, HNS.out, HW5.out, HG5.out⟩, rfl⟩
      case measure => rw [posMeas_eq HW5.out, HME.out]; have := HNS.out.2.1; have := HLEN.out; have := HPJ.out; omega
end Go.Proofs.YtnaecdoeldoipaaGreatDoor
