/-
  The reference's reader of trees: num, text. The reference's reader of trees: text.
-/
import Derived.BigQuiet
import Derived.Deep.RegionHeld3
import Derived.StillTailTactics
import Derived.Deep.Cut
import Derived.Deep.CutRange
import Derived.Deep.DeepCutAuto
import Derived.Test.YtnaecdoeldoipaaGreatDoorKTrL
import Derived.Test.YtnaecdoeldoipaaGreatDoorKRkS
set_option linter.unusedVariables false
set_option linter.unusedSimpArgs false
namespace Go.Proofs.YtnaecdoeldoipaaGreatDoor
open Go.ChangeShapes Go.WideShapes Go.ChangeAt Go.RowKit

theorem numK_stop' (k : Nat) (acc : Int) (l : List UInt8) (h : ¬ (48 ≤ (l.headD 0).toNat ∧ (l.headD 0).toNat ≤ 57)) : numK k acc l = (acc, 0) := by
  cases k with
  | zero => rfl
  | succ k =>
    cases l with
    | nil => rfl
    | cons b r =>
      simp only [List.headD_cons] at h
      unfold numK
      rw [if_neg h]
theorem numK_more' (k : Nat) (acc : Int) (l : List UInt8) (h : 48 ≤ (l.headD 0).toNat ∧ (l.headD 0).toNat ≤ 57) : numK (k + 1) acc l = ((numK k (acc * 10 + (((l.headD 0).toNat : Int) - 48)) (l.drop 1)).1, (numK k (acc * 10 + (((l.headD 0).toNat : Int) - 48)) (l.drop 1)).2 + 1) := by
  cases l with
  | nil => exact absurd h.1 (by decide)
  | cons b r =>
    simp only [List.headD_cons] at h
    rw [numK, if_pos h]
    rfl
theorem pow10_le (j : Nat) (h : j ≤ 10) : (10 : Int) ^ j ≤ 10000000000 := by
  have : j = 0 ∨ j = 1 ∨ j = 2 ∨ j = 3 ∨ j = 4 ∨ j = 5 ∨ j = 6 ∨ j = 7 ∨ j = 8 ∨ j = 9 ∨ j = 10 := by omega
  rcases this with rfl | rfl | rfl | rfl | rfl | rfl | rfl | rfl | rfl | rfl | rfl <;> decide
theorem u8_sub' (z : Int) (h0 : 48 ≤ z) (h1 : z ≤ 57) : IntKind.u8.wrap (z - 48) = z - 48 := by
  have e : IntKind.u8.wrap (z - 48) = (z - 48) % 256 := rfl
  rw [e]
  omega
/-- so many digits were read -/
def NumAt (l : List UInt8) (j : Nat) (acc : Int) : Prop := j ≤ 10 ∧ j ≤ l.length ∧ (0 ≤ acc ∧ acc + 1 ≤ 10 ^ j) ∧ numK 10 0 l = ((numK (10 - j) acc (l.drop j)).1, (numK (10 - j) acc (l.drop j)).2 + j)
theorem NumAt.start (l : List UInt8) : NumAt l 0 0 := ⟨by omega, by omega, ⟨by decide, by decide⟩, rfl⟩
theorem NumAt.bd {l : List UInt8} {j : Nat} {acc : Int} (h : NumAt l j acc) : 0 ≤ acc ∧ acc ≤ 9999999999 := by
  have := pow10_le j h.1
  have := h.2.2.1
  omega
theorem NumAt.lt {l : List UInt8} {j : Nat} {acc : Int} (h : NumAt l j acc) (hj : j < 10) : acc ≤ 999999999 := by
  have h1 := h.2.2.1.2
  have h2 : (10 : Int) ^ j ≤ 1000000000 := by
    have : j = 0 ∨ j = 1 ∨ j = 2 ∨ j = 3 ∨ j = 4 ∨ j = 5 ∨ j = 6 ∨ j = 7 ∨ j = 8 ∨ j = 9 := by omega
    rcases this with rfl | rfl | rfl | rfl | rfl | rfl | rfl | rfl | rfl | rfl <;> decide
  omega
theorem NumAt.stop {l : List UInt8} {j : Nat} {acc : Int} (h : NumAt l j acc) (hs : j = 10 ∨ ¬ (48 ≤ ((l.drop j).headD 0).toNat ∧ ((l.drop j).headD 0).toNat ≤ 57)) : numK 10 0 l = (acc, j) := by
  rw [h.2.2.2]
  rcases hs with rfl | hs
  · simp [numK]
  · rw [numK_stop' _ _ _ hs]
    simp
theorem NumAt.step {l : List UInt8} {j : Nat} {acc : Int} (h : NumAt l j acc) (hj : j < 10) (hs : 48 ≤ ((l.drop j).headD 0).toNat ∧ ((l.drop j).headD 0).toNat ≤ 57) : NumAt l (j + 1) (acc * 10 + ((((l.drop j).headD 0).toNat : Int) - 48)) := by
  obtain ⟨h1, h2, ⟨h3, h4⟩, h5⟩ := h
  have hne : j < l.length := by
    refine Nat.lt_of_not_le (fun hn => ?_)
    rw [List.drop_eq_nil_of_le hn] at hs
    exact absurd hs.1 (by decide)
  refine ⟨by omega, by omega, ⟨by omega, ?_⟩, ?_⟩
  · rw [Int.pow_succ]
    omega
  · rw [h5, show 10 - j = (10 - (j + 1)) + 1 by omega, numK_more' _ _ _ hs, List.drop_drop]
    simp only [Prod.mk.injEq]
    exact ⟨trivial, by omega⟩
def NoDigit (R : List UInt8) : Prop := ∀ c r, R = c :: r → ¬ (48 ≤ c.toNat ∧ c.toNat ≤ 57)
def NumTakenD (l : List UInt8) (bad : Bool) (n : Int) (l' : List UInt8) (bad' : Bool) : Prop :=
  ∀ (z : Int) (R : List UInt8), -999999999 ≤ z ∧ z ≤ 999999999 → NoDigit R → bad = false → l = bl (dec z) ++ R → n = z ∧ bad' = false ∧ l' = R
theorem NumTakenD.anyB {l l' : List UInt8} {n : Int} {bad : Bool} (h : NumTakenD l false n l' false) : NumTakenD l bad n l' bad := fun z R h1 h2 hb e => ⟨(h z R h1 h2 rfl e).1, hb, (h z R h1 h2 rfl e).2.2⟩
theorem NumTakenD.toB {l l' : List UInt8} {n : Int} {bad b' : Bool} (h : NumTakenD l false n l' b') : NumTakenD l bad n l' b' := fun z R h1 h2 _ e => h z R h1 h2 rfl e
def NumOutG (g : Nat) (s : ByteArray) (l : List UInt8) (bad : Bool) (w : World) (e : Ending) (w' : World) : Prop :=
  ∃ (n : Int) (l' : List UInt8) (bad' : Bool), e = .returned (.int .i64 n) ∧ (-9999999999 ≤ n ∧ n ≤ 9999999999) ∧ RdK w' g s 0 l' bad' ∧ NumTakenD l bad n l' bad' ∧ (l'.length ≤ l.length ∧ (bad' = false → l'.length < l.length)) ∧ (bad' = false → bad = false) ∧ w.grownBy w' (some g)
def NumOutS (g : Nat) (s : ByteArray) (l : List UInt8) (w : World) (e : Ending) (w' : World) : Prop :=
  ∃ (n : Int) (l' : List UInt8) (bad' : Bool), e = .returned (.int .i64 n) ∧ (-9999999999 ≤ n ∧ n ≤ 9999999999) ∧ RdK w' g s 0 l' bad' ∧ NumTaken l false n l' bad' ∧ (l'.length ≤ l.length ∧ (bad' = false → l'.length < l.length)) ∧ w.grownBy w' (some g)
theorem numOf10_decD (z : Int) (hz : -999999999 ≤ z ∧ z ≤ 999999999) (R : List UInt8) (hR : NoDigit R) : (numOf10 (bl (dec z) ++ R)).1 = z ∧ (bl (dec z) ++ R).drop (numOf10 (bl (dec z) ++ R)).2 = R ∧ (if (bl (dec z) ++ R).headD 0 = 45 then 1 else 0) < (numOf10 (bl (dec z) ++ R)).2 := by
  have e : bl (dec z) = Lib.itoa z := by unfold bl; exact dec_bytes z
  rw [e]
  unfold Lib.itoa
  have hlen : ∀ u : Nat, u ≤ 999999999 → 1 ≤ (Lib.decDigits u).length := fun u _ => by rw [Lib.decDigits]; split <;> simp
  split
  · rename_i hneg
    have hu : z.natAbs ≤ 999999999 := by omega
    have h1 := numK_digits' (Lib.decDigits z.natAbs) 10 0 R (digits_mem _ _ (Nat.le_refl _)) (decDigits_nine _ hu) hR
    have h2 := valD_digits _ z.natAbs (Nat.le_refl _)
    unfold numOf10
    simp only [List.cons_append, List.headD_cons, if_true, List.drop_succ_cons, List.drop_zero]
    rw [h1, h2]
    refine ⟨by simp only; omega, ?_, by have := hlen _ hu; simp only; omega⟩
    simp only
    rw [Nat.add_comm, List.drop_succ_cons, List.drop_left]
  · rename_i hneg
    have hu : z.toNat ≤ 999999999 := by omega
    have h1 := numK_digits' (Lib.decDigits z.toNat) 10 0 R (digits_mem _ _ (Nat.le_refl _)) (decDigits_nine _ hu) hR
    have h2 := valD_digits _ z.toNat (Nat.le_refl _)
    have h3 := hlen _ hu
    have h4 : (Lib.decDigits z.toNat ++ R).headD 0 ≠ 45 := by
      match hd : Lib.decDigits z.toNat, h3 with
      | d :: ds, _ =>
        have := digits_mem _ z.toNat (Nat.le_refl _) d (by rw [hd]; simp)
        simp only [List.cons_append, List.headD_cons]
        rintro rfl
        revert this
        decide
    unfold numOf10
    rw [if_neg h4, if_neg h4, h1, h2]
    exact ⟨by simp only; omega, by simp only; rw [List.drop_left], by simp only; omega⟩
theorem num_taken_negD {l : List UInt8} {acc : Int} {j : Nat} (hc : l.headD 0 = 45) (hk : numK 10 0 (l.drop 1) = (acc, j)) : NumTakenD l false (-acc) (l.drop (1 + j)) (decide (j = 0)) := by
  intro z R h1 hR _ e
  have h := numOf10_decD z h1 R hR
  rw [← e] at h
  unfold numOf10 at h
  rw [if_pos hc, hk, if_pos hc] at h
  simp only at h
  exact ⟨h.1, by simp; omega, h.2.1⟩
theorem num_taken_posD {l : List UInt8} {acc : Int} {j : Nat} (hc : ¬ l.headD 0 = 45) (hk : numK 10 0 l = (acc, j)) : NumTakenD l false acc (l.drop j) (decide (j = 0)) := by
  intro z R h1 hR _ e
  have h := numOf10_decD z h1 R hR
  rw [← e] at h
  unfold numOf10 at h
  rw [if_neg hc, hk, if_neg hc] at h
  simp only at h
  exact ⟨h.1, by simp; omega, h.2.1⟩
def posMeas (w : World) (g size : Nat) : Nat := match w.cell? ⟨g, 1, none⟩ with
  | some (.int _ i) => size + 1 - i.toNat
  | _ => 0
theorem posMeas_eq {w : World} {g : Nat} {s : ByteArray} {n : Nat} {b : Bool} (h : Row w g 75 [.string s, .int .i64 (n : Int), .bool b]) : posMeas w g s.size = s.size + 1 - n := by
  unfold posMeas
  rw [h.cell 1]
  simp
set_option maxRecDepth 100000 in
set_option maxHeartbeats 4000000 in
theorem numG_any {s : ByteArray} {l : List UInt8} {bad : Bool} {g : Nat} {w : World} (h : RdK w g s 0 l bad) :
    Calls Tryz.prog 66 #[.pointer (some ⟨g, 0, none⟩)] w (NumOutG g s l bad w) := by
  obtain ⟨n0, hr, hs, _, hn, hl⟩ := h
  have hn0 : n0 ≤ s.size := by omega
  have HW0 := hide hr
  have HLS := hide hl
  have HLE := hide (show l.length + n0 = s.size from by rw [hl, List.length_drop, bl_len]; omega)
  have HLK := hide (look1_any (show RdK w g s 0 l bad from ⟨n0, hr, hs, by omega, (fun _ => hn0), hl⟩) (by omega))
  obtain ⟨c, hc⟩ : ∃ c, l.headD 0 = c := ⟨_, rfl⟩
  have HCL := hide hc
  clear hr hl hn
  go_enter Tryz.func66, Tryz.ntmps66
  go_wp2_with fail
  refine HLK.out.mono ?_
  rintro e v0 ⟨rfl, q0, hv0⟩
  rw [hc]
  have HWz := hide (show Row v0 g 75 [.string s, .int .i64 (n0 : Int), .bool bad] from by rw [hv0]; exact HW0.out.drewN q0)
  have HGz := hide (show w.grownBy v0 (some g) from by rw [hv0]; exact only_drewN (grown_refl w (some g)) q0)
  clear hv0 HLK HW0 hc
  have c0 := HWz.out.cell 0
  have c1 := HWz.out.cell 1
  have y1 := HWz.out.frozen 1
  have lg := HWz.out.lt
  by_cases hneg : c = 45
  · have hci : (c.toNat : Int) = 45 := by subst hneg; rfl
    have HC0 := hide (show l.headD 0 = 45 from HCL.out.trans hneg)
    have hl0 : 1 ≤ l.length := by
      cases l with
      | nil => exact absurd HC0.out (by decide)
      | cons a r => simp
    have hn1' : n0 + 1 ≤ s.size := by have := HLE.out; omega
    have k0 : IntKind.i64.wrap ((n0 : Int) + 1) = (n0 : Int) + 1 := wrapI _ (by omega) (by omega)
    clear hneg
    rw [hci]
    go_upto_region 6 with fail
    have HWy := hide (HWz.out.set 1 (.int .i64 ((n0 : Int) + 1)))
    have HGy := hide (only_setCell (p := ⟨g, 1, none⟩) HGz.out (.inl rfl) (.int .i64 ((n0 : Int) + 1)))
    clear c0 c1 y1 lg HWz HGz k0
    generalize (World.setCell _ _ _) = v1 at HWy HGy ⊢
    obtain ⟨n1, hn1⟩ : ∃ n1, n1 = n0 + 1 := ⟨_, rfl⟩
    have en : (n0 : Int) + 1 = (n1 : Int) := by omega
    rw [en]
    have HW1 := hide (show Row v1 g 75 [.string s, .int .i64 (n1 : Int), .bool bad] from by have h := HWy.out; simp only [List.set_cons_succ, List.set_cons_zero] at h; rw [en] at h; exact h)
    have HG1 := HGy
    obtain ⟨l1, hl1⟩ : ∃ l1, l.drop 1 = l1 := ⟨_, rfl⟩
    have HLD := hide hl1.symm
    have HL1 := hide (show l1 = (bl s).drop n1 from by rw [← hl1, HLS.out, List.drop_drop, hn1]; first | done | rfl | (congr 1; omega))
    have HLEN := hide (show n1 + l1.length = s.size from by rw [← hl1, List.length_drop]; have := HLE.out; omega)
    have HN1 := hide hn1
    clear hl1 hn1 en HWy HGy HCL
    go_loopw [5] (fun nv wr => ∃ (j p : Nat) (acc : Int), nv = .int .i64 acc ∧ p = n1 + j ∧ NumAt l1 j acc ∧ Row wr g 75 [.string s, .int .i64 (p : Int), .bool bad] ∧ w.grownBy wr (some g)) (fun _ wr => posMeas wr g s.size)
    case atStart => exact ⟨0, n1, 0, rfl, rfl, NumAt.start _, HW1.out, HG1.out⟩
    case round =>
      clear HW1 HG1
      obtain ⟨j, p, acc, rfl, hp, hn, hrow, hgr⟩ := hrel
      have HPJ := hide hp
      have HN := hide hn
      have HW := hide hrow
      have HG := hide hgr
      have hj10 := hn.1
      have hjl := hn.2.1
      have hab := hn.bd
      have HME := hide (posMeas_eq hrow)
      have hn1s : p ≤ s.size := by have := HLEN.out; omega
      have hn1b : n1 ≤ 10000 := by have := HLEN.out; omega
      clear hn hrow hgr hp
      obtain ⟨c, hc⟩ : ∃ c, (l1.drop j).headD 0 = c := ⟨_, rfl⟩
      have HCC := hide hc
      have hc256 := c.toNat_lt
      have HLK := hide (look1_any (show RdK wr g s 0 (l1.drop j) bad from ⟨p, HW.out, hs, by omega, (fun _ => by omega), by rw [HL1.out, List.drop_drop, HPJ.out]⟩) (by omega))
      go_wp2_with fail
      refine HLK.out.mono ?_
      rintro e v2 ⟨rfl, q2, hv2⟩
      rw [hc]
      have HW2 := hide (show Row v2 g 75 [.string s, .int .i64 (p : Int), .bool bad] from by rw [hv2]; exact HW.out.drewN q2)
      have HG2 := hide (show w.grownBy v2 (some g) from by rw [hv2]; exact only_drewN HG.out q2)
      clear hv2 HLK
      by_cases hlo : 48 ≤ (c.toNat : Int)
      rotate_left
      · clear hc
        have hk := HN.out.stop (.inr (fun h => hlo (by rw [HCC.out] at h; omega)))
        have HT := hide (show NumTakenD l false (-acc) (l.drop (1 + j)) (decide (j = 0)) from num_taken_negD HC0.out (by rw [← HLD.out]; exact hk))
        have hab := HN.out.bd
        have HLL := hide (show (l.drop (1 + j)) = (bl s).drop p from by rw [HLS.out, List.drop_drop, HPJ.out]; first | done | rfl | (congr 1; have := HN1.out; omega))
        have HLN := hide (show (l.drop (1 + j)).length ≤ l.length ∧ (decide (j = 0) = false → (l.drop (1 + j)).length < l.length) from by
          have := HLE.out
          have hll : l1.length ≤ l.length := by rw [HLD.out]; first | exact Nat.le_refl _ | (rw [List.length_drop]; omega)
          rw [List.length_drop]
          refine ⟨by omega, fun h => ?_⟩
          have : ¬ j = 0 := by simpa using h
          omega)
        have hacn : IntKind.i64.wrap (-acc) = -acc := wrapI _ (by omega) (by omega)
        clear hk
        have c0 := HW2.out.cell 0
        have c1 := HW2.out.cell 1
        have c2 := HW2.out.cell 2
        have y1 := HW2.out.frozen 1
        have y2 := HW2.out.frozen 2
        have lg := HW2.out.lt
        by_cases hj0 : j = 0
        · subst hj0
          have hpn : p = n1 := by have := HPJ.out; omega
          have hpI : ((p : Int) == (n1 : Int)) = true := by rw [hpn]; simp
          have hpJ : (p : Int) = (n1 : Int) := by omega
          clear hpn
          go_wp2
          go_ret
          exact ⟨(-acc), (l.drop (1 + 0)), true, rfl, ⟨by omega, by omega⟩, ⟨p, HW2.out.set 2 _, hs, by omega, (fun h => by cases h), HLL.out⟩, HT.out.toB, ⟨HLN.out.1, fun h => by cases h⟩, (fun h => by cases h), only_setCell (p := ⟨g, 2, none⟩) HG2.out (.inl rfl) _⟩
        · have hj1 : ¬ ((p : Int) = (n1 : Int)) := by have := HPJ.out; omega
          have hj2 : ((p : Int) == (n1 : Int)) = false := beq_eq_false_iff_ne.2 hj1
          have hdj : decide (j = 0) = false := by simpa using hj0
          have HT2 := hide (show NumTakenD l bad (-acc) (l.drop (1 + j)) bad from by have h := HT.out; rw [hdj] at h; exact h.anyB)
          go_wp2
          go_ret
          exact ⟨(-acc), (l.drop (1 + j)), bad, rfl, ⟨by omega, by omega⟩, ⟨p, HW2.out, hs, by omega, (fun _ => by omega), HLL.out⟩, HT2.out, ⟨HLN.out.1, fun _ => HLN.out.2 hdj⟩, (fun h => h), HG2.out⟩
      have HLK := hide (look1_any (show RdK v2 g s 0 (l1.drop j) bad from ⟨p, HW2.out, hs, by omega, (fun _ => by omega), by rw [HL1.out, List.drop_drop, HPJ.out]⟩) (by omega))
      go_wp2_with fail
      refine HLK.out.mono ?_
      rintro e v3 ⟨rfl, q3, hv3⟩
      rw [hc]
      have HW3 := hide (show Row v3 g 75 [.string s, .int .i64 (p : Int), .bool bad] from by rw [hv3]; exact HW2.out.drewN q3)
      have HG3 := hide (show w.grownBy v3 (some g) from by rw [hv3]; exact only_drewN HG2.out q3)
      clear hv3 HLK
      by_cases hhi : (c.toNat : Int) ≤ 57
      rotate_left
      · clear hc
        have hk := HN.out.stop (.inr (fun h => hhi (by rw [HCC.out] at h; omega)))
        have HT := hide (show NumTakenD l false (-acc) (l.drop (1 + j)) (decide (j = 0)) from num_taken_negD HC0.out (by rw [← HLD.out]; exact hk))
        have hab := HN.out.bd
        have HLL := hide (show (l.drop (1 + j)) = (bl s).drop p from by rw [HLS.out, List.drop_drop, HPJ.out]; first | done | rfl | (congr 1; have := HN1.out; omega))
        have HLN := hide (show (l.drop (1 + j)).length ≤ l.length ∧ (decide (j = 0) = false → (l.drop (1 + j)).length < l.length) from by
          have := HLE.out
          have hll : l1.length ≤ l.length := by rw [HLD.out]; first | exact Nat.le_refl _ | (rw [List.length_drop]; omega)
          rw [List.length_drop]
          refine ⟨by omega, fun h => ?_⟩
          have : ¬ j = 0 := by simpa using h
          omega)
        have hacn : IntKind.i64.wrap (-acc) = -acc := wrapI _ (by omega) (by omega)
        clear hk
        have c0 := HW3.out.cell 0
        have c1 := HW3.out.cell 1
        have c2 := HW3.out.cell 2
        have y1 := HW3.out.frozen 1
        have y2 := HW3.out.frozen 2
        have lg := HW3.out.lt
        by_cases hj0 : j = 0
        · subst hj0
          have hpn : p = n1 := by have := HPJ.out; omega
          have hpI : ((p : Int) == (n1 : Int)) = true := by rw [hpn]; simp
          have hpJ : (p : Int) = (n1 : Int) := by omega
          clear hpn
          go_wp2
          go_ret
          exact ⟨(-acc), (l.drop (1 + 0)), true, rfl, ⟨by omega, by omega⟩, ⟨p, HW3.out.set 2 _, hs, by omega, (fun h => by cases h), HLL.out⟩, HT.out.toB, ⟨HLN.out.1, fun h => by cases h⟩, (fun h => by cases h), only_setCell (p := ⟨g, 2, none⟩) HG3.out (.inl rfl) _⟩
        · have hj1 : ¬ ((p : Int) = (n1 : Int)) := by have := HPJ.out; omega
          have hj2 : ((p : Int) == (n1 : Int)) = false := beq_eq_false_iff_ne.2 hj1
          have hdj : decide (j = 0) = false := by simpa using hj0
          have HT2 := hide (show NumTakenD l bad (-acc) (l.drop (1 + j)) bad from by have h := HT.out; rw [hdj] at h; exact h.anyB)
          go_wp2
          go_ret
          exact ⟨(-acc), (l.drop (1 + j)), bad, rfl, ⟨by omega, by omega⟩, ⟨p, HW3.out, hs, by omega, (fun _ => by omega), HLL.out⟩, HT2.out, ⟨HLN.out.1, fun _ => HLN.out.2 hdj⟩, (fun h => h), HG3.out⟩
      have c0 := HW3.out.cell 0
      have c1 := HW3.out.cell 1
      have c2 := HW3.out.cell 2
      have y1 := HW3.out.frozen 1
      have y2 := HW3.out.frozen 2
      have lg := HW3.out.lt
      by_cases hj : j < 10
      rotate_left
      · have hjI : ¬ ((p : Int) < (n1 : Int) + 10) := by have := HPJ.out; omega
        clear c0 c1 c2 y1 y2 lg
        clear hc
        have hk := HN.out.stop (.inl (by omega))
        have HT := hide (show NumTakenD l false (-acc) (l.drop (1 + j)) (decide (j = 0)) from num_taken_negD HC0.out (by rw [← HLD.out]; exact hk))
        have hab := HN.out.bd
        have HLL := hide (show (l.drop (1 + j)) = (bl s).drop p from by rw [HLS.out, List.drop_drop, HPJ.out]; first | done | rfl | (congr 1; have := HN1.out; omega))
        have HLN := hide (show (l.drop (1 + j)).length ≤ l.length ∧ (decide (j = 0) = false → (l.drop (1 + j)).length < l.length) from by
          have := HLE.out
          have hll : l1.length ≤ l.length := by rw [HLD.out]; first | exact Nat.le_refl _ | (rw [List.length_drop]; omega)
          rw [List.length_drop]
          refine ⟨by omega, fun h => ?_⟩
          have : ¬ j = 0 := by simpa using h
          omega)
        have hacn : IntKind.i64.wrap (-acc) = -acc := wrapI _ (by omega) (by omega)
        clear hk
        have c0 := HW3.out.cell 0
        have c1 := HW3.out.cell 1
        have c2 := HW3.out.cell 2
        have y1 := HW3.out.frozen 1
        have y2 := HW3.out.frozen 2
        have lg := HW3.out.lt
        have hj0 : ¬ j = 0 := by omega
        · have hj1 : ¬ ((p : Int) = (n1 : Int)) := by have := HPJ.out; omega
          have hj2 : ((p : Int) == (n1 : Int)) = false := beq_eq_false_iff_ne.2 hj1
          have hdj : decide (j = 0) = false := by simpa using hj0
          have HT2 := hide (show NumTakenD l bad (-acc) (l.drop (1 + j)) bad from by have h := HT.out; rw [hdj] at h; exact h.anyB)
          go_wp2
          go_ret
          exact ⟨(-acc), (l.drop (1 + j)), bad, rfl, ⟨by omega, by omega⟩, ⟨p, HW3.out, hs, by omega, (fun _ => by omega), HLL.out⟩, HT2.out, ⟨HLN.out.1, fun _ => HLN.out.2 hdj⟩, (fun h => h), HG3.out⟩
      have hjI : (p : Int) < (n1 : Int) + 10 := by have := HPJ.out; omega
      have hac9 := HN.out.lt hj
      have HNS := hide (HN.out.step hj (by rw [HCC.out]; omega))
      rw [hc] at HNS
      go_upto_region 7 with fail
      clear c0 c1 c2 y1 y2 lg
      have HLK := hide (look1_any (show RdK v3 g s 0 (l1.drop j) bad from ⟨p, HW3.out, hs, by omega, (fun _ => by omega), by rw [HL1.out, List.drop_drop, HPJ.out]⟩) (by omega))
      go_wp2_with fail
      refine HLK.out.mono ?_
      rintro e v4 ⟨rfl, q4, hv4⟩
      rw [hc]
      have HW4 := hide (show Row v4 g 75 [.string s, .int .i64 (p : Int), .bool bad] from by rw [hv4]; exact HW3.out.drewN q4)
      have HG4 := hide (show w.grownBy v4 (some g) from by rw [hv4]; exact only_drewN HG3.out q4)
      clear hv4 HLK
      have hu := u8_sub' (c.toNat : Int) hlo hhi
      have k1 : IntKind.i64.wrap (acc * 10) = acc * 10 := wrapI _ (by omega) (by omega)
      have k2 : IntKind.i64.wrap (acc * 10 + ((c.toNat : Int) - 48)) = acc * 10 + ((c.toNat : Int) - 48) := wrapI _ (by omega) (by omega)
      have k3 : IntKind.i64.wrap ((c.toNat : Int) - 48) = (c.toNat : Int) - 48 := wrapI _ (by omega) (by omega)
      have k4 : IntKind.i64.wrap ((p : Int) + 1) = (p : Int) + 1 := wrapI _ (by omega) (by omega)
      have HW5 := hide (show Row (v4.setCell ⟨g, 1, none⟩ (.int .i64 ((p : Int) + 1))) g 75 [.string s, .int .i64 ((p + 1 : Nat) : Int), .bool bad] from by rw [show ((p + 1 : Nat) : Int) = (p : Int) + 1 by omega]; exact HW4.out.set 1 _)
      have HG5 := hide (only_setCell (p := ⟨g, 1, none⟩) HG4.out (.inl rfl) (.int .i64 ((p : Int) + 1)))
      have c0 := HW4.out.cell 0
      have c1 := HW4.out.cell 1
      have c2 := HW4.out.cell 2
      have y1 := HW4.out.frozen 1
      have y2 := HW4.out.frozen 2
      have lg := HW4.out.lt
      clear hc
      go_wp2
      go_roundw
      case rel =>
        have hpj2 : p + 1 = n1 + (j + 1) := by have := HPJ.out; omega
        first | exact ⟨j + 1, p + 1, _, rfl, hpj2, HNS.out, HW5.out, HG5.out⟩ | exact ⟨_, _, _, _, _, _, _, _, _, _, _, _, _, _, _, _, _, _, _, _, _, _, _, _, _, _, _, _, _, _, _, _, _, ⟨j + 1, p + 1, acc * 10 + ((c.toNat : Int) - 48), by first | rfl | go_num | (congr 1; simp only [wrap64]; omega), hpj2, HNS.out, HW5.out, HG5.out⟩, rfl⟩
      case measure => rw [posMeas_eq HW5.out, HME.out]; have := HNS.out.2.1; have := HLEN.out; have := HPJ.out; omega
  · have hci : ¬ ((c.toNat : Int) = 45) := fun e => hneg (UInt8.toNat_inj.1 (show c.toNat = 45 from by omega))
    have HC0 := hide (show ¬ l.headD 0 = 45 from fun e => hneg (HCL.out.symm.trans e))
    have hcb : ((c.toNat : Int) == 45) = false := beq_eq_false_iff_ne.2 hci
    clear hneg
    go_upto_region 6 with fail
    obtain ⟨n1, hn1⟩ : ∃ n1, n1 = n0 := ⟨_, rfl⟩
    rw [← hn1] at HWz HLS HLE hn0 ⊢
    have HW1 := hide (show Row v0 g 75 [.string s, .int .i64 (n1 : Int), .bool bad] from HWz.out)
    have HG1 := HGz
    obtain ⟨l1, hl1⟩ : ∃ l1, l = l1 := ⟨_, rfl⟩
    have HLD := hide hl1.symm
    have HL1 := hide (show l1 = (bl s).drop n1 from by rw [← hl1, HLS.out])
    have HLEN := hide (show n1 + l1.length = s.size from by rw [← hl1]; have := HLE.out; omega)
    have HN1 := hide (show n1 = n1 from rfl)
    clear c0 c1 y1 lg hl1 hn1 HWz HGz HCL
    go_loopw [5] (fun nv wr => ∃ (j p : Nat) (acc : Int), nv = .int .i64 acc ∧ p = n1 + j ∧ NumAt l1 j acc ∧ Row wr g 75 [.string s, .int .i64 (p : Int), .bool bad] ∧ w.grownBy wr (some g)) (fun _ wr => posMeas wr g s.size)
    case atStart => exact ⟨0, n1, 0, rfl, rfl, NumAt.start _, HW1.out, HG1.out⟩
    case round =>
      clear HW1 HG1
      obtain ⟨j, p, acc, rfl, hp, hn, hrow, hgr⟩ := hrel
      have HPJ := hide hp
      have HN := hide hn
      have HW := hide hrow
      have HG := hide hgr
      have hj10 := hn.1
      have hjl := hn.2.1
      have hab := hn.bd
      have HME := hide (posMeas_eq hrow)
      have hn1s : p ≤ s.size := by have := HLEN.out; omega
      have hn1b : n1 ≤ 10000 := by have := HLEN.out; omega
      clear hn hrow hgr hp
      obtain ⟨c, hc⟩ : ∃ c, (l1.drop j).headD 0 = c := ⟨_, rfl⟩
      have HCC := hide hc
      have hc256 := c.toNat_lt
      have HLK := hide (look1_any (show RdK wr g s 0 (l1.drop j) bad from ⟨p, HW.out, hs, by omega, (fun _ => by omega), by rw [HL1.out, List.drop_drop, HPJ.out]⟩) (by omega))
      go_wp2_with fail
      refine HLK.out.mono ?_
      rintro e v2 ⟨rfl, q2, hv2⟩
      rw [hc]
      have HW2 := hide (show Row v2 g 75 [.string s, .int .i64 (p : Int), .bool bad] from by rw [hv2]; exact HW.out.drewN q2)
      have HG2 := hide (show w.grownBy v2 (some g) from by rw [hv2]; exact only_drewN HG.out q2)
      clear hv2 HLK
      by_cases hlo : 48 ≤ (c.toNat : Int)
      rotate_left
      · clear hc
        have hk := HN.out.stop (.inr (fun h => hlo (by rw [HCC.out] at h; omega)))
        have HT := hide (show NumTakenD l false acc (l.drop j) (decide (j = 0)) from num_taken_posD HC0.out (by rw [← HLD.out]; exact hk))
        have hab := HN.out.bd
        have HLL := hide (show (l.drop j) = (bl s).drop p from by rw [HLS.out, List.drop_drop, HPJ.out]; first | done | rfl | (congr 1; have := HN1.out; omega))
        have HLN := hide (show (l.drop j).length ≤ l.length ∧ (decide (j = 0) = false → (l.drop j).length < l.length) from by
          have := HLE.out
          have hll : l1.length ≤ l.length := by rw [HLD.out]; first | exact Nat.le_refl _ | (rw [List.length_drop]; omega)
          rw [List.length_drop]
          refine ⟨by omega, fun h => ?_⟩
          have : ¬ j = 0 := by simpa using h
          omega)
        have hacn : IntKind.i64.wrap (-acc) = -acc := wrapI _ (by omega) (by omega)
        clear hk
        have c0 := HW2.out.cell 0
        have c1 := HW2.out.cell 1
        have c2 := HW2.out.cell 2
        have y1 := HW2.out.frozen 1
        have y2 := HW2.out.frozen 2
        have lg := HW2.out.lt
        by_cases hj0 : j = 0
        · subst hj0
          have hpn : p = n1 := by have := HPJ.out; omega
          have hpI : ((p : Int) == (n1 : Int)) = true := by rw [hpn]; simp
          have hpJ : (p : Int) = (n1 : Int) := by omega
          clear hpn
          go_wp2
          go_ret
          exact ⟨acc, (l.drop 0), true, rfl, ⟨by omega, by omega⟩, ⟨p, HW2.out.set 2 _, hs, by omega, (fun h => by cases h), HLL.out⟩, HT.out.toB, ⟨HLN.out.1, fun h => by cases h⟩, (fun h => by cases h), only_setCell (p := ⟨g, 2, none⟩) HG2.out (.inl rfl) _⟩
        · have hj1 : ¬ ((p : Int) = (n1 : Int)) := by have := HPJ.out; omega
          have hj2 : ((p : Int) == (n1 : Int)) = false := beq_eq_false_iff_ne.2 hj1
          have hdj : decide (j = 0) = false := by simpa using hj0
          have HT2 := hide (show NumTakenD l bad acc (l.drop j) bad from by have h := HT.out; rw [hdj] at h; exact h.anyB)
          go_wp2
          go_ret
          exact ⟨acc, (l.drop j), bad, rfl, ⟨by omega, by omega⟩, ⟨p, HW2.out, hs, by omega, (fun _ => by omega), HLL.out⟩, HT2.out, ⟨HLN.out.1, fun _ => HLN.out.2 hdj⟩, (fun h => h), HG2.out⟩
      have HLK := hide (look1_any (show RdK v2 g s 0 (l1.drop j) bad from ⟨p, HW2.out, hs, by omega, (fun _ => by omega), by rw [HL1.out, List.drop_drop, HPJ.out]⟩) (by omega))
      go_wp2_with fail
      refine HLK.out.mono ?_
      rintro e v3 ⟨rfl, q3, hv3⟩
      rw [hc]
      have HW3 := hide (show Row v3 g 75 [.string s, .int .i64 (p : Int), .bool bad] from by rw [hv3]; exact HW2.out.drewN q3)
      have HG3 := hide (show w.grownBy v3 (some g) from by rw [hv3]; exact only_drewN HG2.out q3)
      clear hv3 HLK
      by_cases hhi : (c.toNat : Int) ≤ 57
      rotate_left
      · clear hc
        have hk := HN.out.stop (.inr (fun h => hhi (by rw [HCC.out] at h; omega)))
        have HT := hide (show NumTakenD l false acc (l.drop j) (decide (j = 0)) from num_taken_posD HC0.out (by rw [← HLD.out]; exact hk))
        have hab := HN.out.bd
        have HLL := hide (show (l.drop j) = (bl s).drop p from by rw [HLS.out, List.drop_drop, HPJ.out]; first | done | rfl | (congr 1; have := HN1.out; omega))
        have HLN := hide (show (l.drop j).length ≤ l.length ∧ (decide (j = 0) = false → (l.drop j).length < l.length) from by
          have := HLE.out
          have hll : l1.length ≤ l.length := by rw [HLD.out]; first | exact Nat.le_refl _ | (rw [List.length_drop]; omega)
          rw [List.length_drop]
          refine ⟨by omega, fun h => ?_⟩
          have : ¬ j = 0 := by simpa using h
          omega)
        have hacn : IntKind.i64.wrap (-acc) = -acc := wrapI _ (by omega) (by omega)
        clear hk
        have c0 := HW3.out.cell 0
        have c1 := HW3.out.cell 1
        have c2 := HW3.out.cell 2
        have y1 := HW3.out.frozen 1
        have y2 := HW3.out.frozen 2
        have lg := HW3.out.lt
        by_cases hj0 : j = 0
        · subst hj0
          have hpn : p = n1 := by have := HPJ.out; omega
          have hpI : ((p : Int) == (n1 : Int)) = true := by rw [hpn]; simp
          have hpJ : (p : Int) = (n1 : Int) := by omega
          clear hpn
          go_wp2
          go_ret
          exact ⟨acc, (l.drop 0), true, rfl, ⟨by omega, by omega⟩, ⟨p, HW3.out.set 2 _, hs, by omega, (fun h => by cases h), HLL.out⟩, HT.out.toB, ⟨HLN.out.1, fun h => by cases h⟩, (fun h => by cases h), only_setCell (p := ⟨g, 2, none⟩) HG3.out (.inl rfl) _⟩
        · have hj1 : ¬ ((p : Int) = (n1 : Int)) := by have := HPJ.out; omega
          have hj2 : ((p : Int) == (n1 : Int)) = false := beq_eq_false_iff_ne.2 hj1
          have hdj : decide (j = 0) = false := by simpa using hj0
          have HT2 := hide (show NumTakenD l bad acc (l.drop j) bad from by have h := HT.out; rw [hdj] at h; exact h.anyB)
          go_wp2
          go_ret
          exact ⟨acc, (l.drop j), bad, rfl, ⟨by omega, by omega⟩, ⟨p, HW3.out, hs, by omega, (fun _ => by omega), HLL.out⟩, HT2.out, ⟨HLN.out.1, fun _ => HLN.out.2 hdj⟩, (fun h => h), HG3.out⟩
      have c0 := HW3.out.cell 0
      have c1 := HW3.out.cell 1
      have c2 := HW3.out.cell 2
      have y1 := HW3.out.frozen 1
      have y2 := HW3.out.frozen 2
      have lg := HW3.out.lt
      by_cases hj : j < 10
      rotate_left
      · have hjI : ¬ ((p : Int) < (n1 : Int) + 10) := by have := HPJ.out; omega
        clear c0 c1 c2 y1 y2 lg
        clear hc
        have hk := HN.out.stop (.inl (by omega))
        have HT := hide (show NumTakenD l false acc (l.drop j) (decide (j = 0)) from num_taken_posD HC0.out (by rw [← HLD.out]; exact hk))
        have hab := HN.out.bd
        have HLL := hide (show (l.drop j) = (bl s).drop p from by rw [HLS.out, List.drop_drop, HPJ.out]; first | done | rfl | (congr 1; have := HN1.out; omega))
        have HLN := hide (show (l.drop j).length ≤ l.length ∧ (decide (j = 0) = false → (l.drop j).length < l.length) from by
          have := HLE.out
          have hll : l1.length ≤ l.length := by rw [HLD.out]; first | exact Nat.le_refl _ | (rw [List.length_drop]; omega)
          rw [List.length_drop]
          refine ⟨by omega, fun h => ?_⟩
          have : ¬ j = 0 := by simpa using h
          omega)
        have hacn : IntKind.i64.wrap (-acc) = -acc := wrapI _ (by omega) (by omega)
        clear hk
        have c0 := HW3.out.cell 0
        have c1 := HW3.out.cell 1
        have c2 := HW3.out.cell 2
        have y1 := HW3.out.frozen 1
        have y2 := HW3.out.frozen 2
        have lg := HW3.out.lt
        have hj0 : ¬ j = 0 := by omega
        · have hj1 : ¬ ((p : Int) = (n1 : Int)) := by have := HPJ.out; omega
          have hj2 : ((p : Int) == (n1 : Int)) = false := beq_eq_false_iff_ne.2 hj1
          have hdj : decide (j = 0) = false := by simpa using hj0
          have HT2 := hide (show NumTakenD l bad acc (l.drop j) bad from by have h := HT.out; rw [hdj] at h; exact h.anyB)
          go_wp2
          go_ret
          exact ⟨acc, (l.drop j), bad, rfl, ⟨by omega, by omega⟩, ⟨p, HW3.out, hs, by omega, (fun _ => by omega), HLL.out⟩, HT2.out, ⟨HLN.out.1, fun _ => HLN.out.2 hdj⟩, (fun h => h), HG3.out⟩
      have hjI : (p : Int) < (n1 : Int) + 10 := by have := HPJ.out; omega
      have hac9 := HN.out.lt hj
      have HNS := hide (HN.out.step hj (by rw [HCC.out]; omega))
      rw [hc] at HNS
      go_upto_region 7 with fail
      clear c0 c1 c2 y1 y2 lg
      have HLK := hide (look1_any (show RdK v3 g s 0 (l1.drop j) bad from ⟨p, HW3.out, hs, by omega, (fun _ => by omega), by rw [HL1.out, List.drop_drop, HPJ.out]⟩) (by omega))
      go_wp2_with fail
      refine HLK.out.mono ?_
      rintro e v4 ⟨rfl, q4, hv4⟩
      rw [hc]
      have HW4 := hide (show Row v4 g 75 [.string s, .int .i64 (p : Int), .bool bad] from by rw [hv4]; exact HW3.out.drewN q4)
      have HG4 := hide (show w.grownBy v4 (some g) from by rw [hv4]; exact only_drewN HG3.out q4)
      clear hv4 HLK
      have hu := u8_sub' (c.toNat : Int) hlo hhi
      have k1 : IntKind.i64.wrap (acc * 10) = acc * 10 := wrapI _ (by omega) (by omega)
      have k2 : IntKind.i64.wrap (acc * 10 + ((c.toNat : Int) - 48)) = acc * 10 + ((c.toNat : Int) - 48) := wrapI _ (by omega) (by omega)
      have k3 : IntKind.i64.wrap ((c.toNat : Int) - 48) = (c.toNat : Int) - 48 := wrapI _ (by omega) (by omega)
      have k4 : IntKind.i64.wrap ((p : Int) + 1) = (p : Int) + 1 := wrapI _ (by omega) (by omega)
      have HW5 := hide (show Row (v4.setCell ⟨g, 1, none⟩ (.int .i64 ((p : Int) + 1))) g 75 [.string s, .int .i64 ((p + 1 : Nat) : Int), .bool bad] from by rw [show ((p + 1 : Nat) : Int) = (p : Int) + 1 by omega]; exact HW4.out.set 1 _)
      have HG5 := hide (only_setCell (p := ⟨g, 1, none⟩) HG4.out (.inl rfl) (.int .i64 ((p : Int) + 1)))
      have c0 := HW4.out.cell 0
      have c1 := HW4.out.cell 1
      have c2 := HW4.out.cell 2
      have y1 := HW4.out.frozen 1
      have y2 := HW4.out.frozen 2
      have lg := HW4.out.lt
      clear hc
      go_wp2
      go_roundw
      case rel =>
        have hpj2 : p + 1 = n1 + (j + 1) := by have := HPJ.out; omega
        first | exact ⟨j + 1, p + 1, _, rfl, hpj2, HNS.out, HW5.out, HG5.out⟩ | exact ⟨_, _, _, _, _, _, _, _, _, _, _, _, _, _, _, _, _, _, _, _, _, _, _, _, _, _, _, _, _, _, _, _, _, ⟨j + 1, p + 1, acc * 10 + ((c.toNat : Int) - 48), by first | rfl | go_num | (congr 1; simp only [wrap64]; omega), hpj2, HNS.out, HW5.out, HG5.out⟩, rfl⟩
      case measure => rw [posMeas_eq HW5.out, HME.out]; have := HNS.out.2.1; have := HLEN.out; have := HPJ.out; omega
theorem num1_any {s : ByteArray} {l : List UInt8} {g : Nat} {w : World} (h : RdK w g s 0 l false) :
    Calls Tryz.prog 66 #[.pointer (some ⟨g, 0, none⟩)] w (NumOutS g s l w) := by
  refine (numG_any h).mono ?_
  rintro e w' ⟨n, l', b', h1, h2, h3, h4, h5, _, h6⟩
  exact ⟨n, l', b', h1, h2, h3, fun z R a b c d => h4 z R a (ender_digit b) c d, h5, h6⟩
end Go.Proofs.YtnaecdoeldoipaaGreatDoor
set_option linter.unusedVariables false
set_option linter.unusedSimpArgs false
namespace Go.Proofs.YtnaecdoeldoipaaGreatDoor
open Go.ChangeShapes Go.WideShapes Go.ChangeAt Go.RowKit

def TextOutS (g : Nat) (s : ByteArray) (l : List UInt8) (w : World) (e : Ending) (w' : World) : Prop :=
  ∃ (x : ByteArray) (l' : List UInt8) (bad' : Bool), e = .returned (.string x) ∧ x.size ≤ 10000 ∧ RdK w' g s 0 l' bad' ∧ TextTaken l false x l' bad' ∧ (x.size + l'.length ≤ l.length ∧ (bad' = false → x.size + 2 + l'.length ≤ l.length)) ∧ w.grownBy w' (some g)
theorem drop_split (s : ByteArray) (a b : Nat) (hab : a ≤ b) (hb : b ≤ s.size) : (bl s).drop a = bl (s.extract a b) ++ (bl s).drop b := by
  rw [sub_bl]
  have h := (List.take_append_drop (b - a) ((bl s).drop a)).symm
  rw [List.drop_drop, show a + (b - a) = b by omega] at h
  exact h
theorem no34_unique {a b r R : List UInt8} (ha : ∀ c ∈ a, c ≠ 34) (hb : ∀ c ∈ b, c ≠ 34) (hr : r = [] ∨ ∃ q, r = 34 :: q) (h : a ++ r = b ++ 34 :: R) : a = b ∧ r = 34 :: R := by
  induction a generalizing b with
  | nil =>
    cases b with
    | nil => exact ⟨rfl, h⟩
    | cons d b =>
      rcases hr with rfl | ⟨q, rfl⟩
      · cases h
      · simp only [List.nil_append, List.cons_append] at h
        injection h with h _
        exact absurd h.symm (hb d (by simp))
  | cons d a ih =>
    cases b with
    | nil =>
      simp only [List.nil_append, List.cons_append] at h
      injection h with h _
      exact absurd h (ha d (by simp))
    | cons d' b =>
      simp only [List.cons_append] at h
      injection h with h1 h2
      obtain ⟨rfl, h3⟩ := ih (fun c hc => ha c (by simp [hc])) (fun c hc => hb c (by simp [hc])) h2
      exact ⟨by rw [h1], h3⟩
theorem text_law {s : ByteArray} {l l2 l4 : List UInt8} {n p : Nat} {ok ok2 : Bool} (he : Eaten [34] l ok l2) (h2 : l2 = (bl s).drop n) (hnp : n ≤ p) (hp : p ≤ s.size) (ha : ∀ i (h : i < s.size), n ≤ i → i < p → s[i] ≠ 34)
    (hz : ∀ h : p < s.size, s[p] = 34) (he2 : Eaten [34] ((bl s).drop p) ok2 l4) :
    TextTaken l false (s.extract n p) l4 (!ok || !ok2) ∧ ((s.extract n p).size + l4.length ≤ l.length ∧ ((!ok || !ok2) = false → (s.extract n p).size + 2 + l4.length ≤ l.length)) := by
  have hs := drop_split s n p hnp hp
  have hx : ∀ c ∈ bl (s.extract n p), c ≠ 34 := by
    intro c hc
    rw [sub_bl] at hc
    obtain ⟨i, hi, rfl⟩ := List.getElem_of_mem hc
    rw [List.length_take, List.length_drop, bl_len] at hi
    rw [List.getElem_take, List.getElem_drop, bl_get s (n + i) (by omega)]
    exact ha (n + i) (by omega) (by omega) (by omega)
  have hlen := congrArg List.length hs
  rw [List.length_append, bl_len, ← h2] at hlen
  have hle := he.le
  have hle2 := he2.le
  refine ⟨?_, by omega, fun hb => ?_⟩
  · intro y R hy _ e
    obtain ⟨rfl, h3⟩ := he.yes (r := bl y ++ 34 :: R) e
    rw [h2, hs] at h3
    have hr : (bl s).drop p = [] ∨ ∃ q, (bl s).drop p = 34 :: q := by
      by_cases hlt : p < s.size
      · exact .inr ⟨_, by rw [drop_head s p hlt, hz hlt]⟩
      · exact .inl (drop_none s p (by omega))
    obtain ⟨h4, h5⟩ := no34_unique hx hy hr h3
    obtain ⟨rfl, h6⟩ := he2.yes (r := R) h5
    exact ⟨bl_inj h4, rfl, h6⟩
  · cases ok <;> cases ok2 <;> simp at hb
    have a1 := he.lt
    have a2 := he2.lt
    simp only [List.length_cons, List.length_nil] at a1 a2
    omega
set_option maxRecDepth 100000 in
set_option maxHeartbeats 4000000 in
theorem text1_any {s : ByteArray} {l : List UInt8} {g : Nat} {w : World} (h : RdK w g s 0 l false) :
    Calls Tryz.prog 105 #[.pointer (some ⟨g, 0, none⟩)] w (TextOutS g s l w) := by
  have HE := hide (eat1_any h (by omega) ⟨#[34]⟩ (by decide) (by decide))
  clear h
  go_enter Tryz.func105, Tryz.ntmps105
  go_wp2_with fail
  refine HE.out.mono ?_
  rintro e w1 ⟨ok, l2, rfl, h1, he1, hg1⟩
  rw [Bool.false_or] at h1
  obtain ⟨n, hr1, hs, hn1, hnb, hl2⟩ := h1
  have hns : n ≤ s.size := by omega
  have HE1 := hide (show Eaten [34] l ok l2 from he1)
  have HL2 := hide hl2
  have HG1 := hide hg1
  obtain ⟨b1, hb1⟩ : ∃ b, b = !ok := ⟨_, rfl⟩
  have HW1 := hide (show Row w1 g 75 [.string s, .int .i64 (n : Int), .bool b1] from by rw [hb1]; exact hr1)
  have HBB := hide hb1
  clear hr1 he1 hg1 hl2 hnb hn1 hb1 HE
  have c0 := HW1.out.cell 0
  have c1 := HW1.out.cell 1
  have lg := HW1.out.lt
  go_upto_region 3 with fail
  go_loopw [] (fun wr => ∃ p : Nat, n ≤ p ∧ p ≤ s.size ∧ (∀ i (h : i < s.size), n ≤ i → i < p → s[i] ≠ 34) ∧ Row wr g 75 [.string s, .int .i64 (p : Int), .bool b1] ∧ w.grownBy wr (some g)) (fun wr => posMeas wr g s.size)
  case atStart => exact ⟨n, Nat.le_refl _, hns, fun i h h1 h2 => by omega, HW1.out, HG1.out⟩
  case round =>
    clear HW1 HG1 c0 c1 lg
    obtain ⟨p, hp1, hp2, hpa, hrk, hg⟩ := hrel
    have HPA := hide hpa
    have HWk := hide hrk
    have HG := hide hg
    have HME := hide (posMeas_eq hrk)
    have c0 := hrk.cell 0
    have c1 := hrk.cell 1
    have y1 := hrk.frozen 1
    have lg := hrk.lt
    clear hpa hrk hg
    by_cases hlt : p < s.size
    · have hltI : (p : Int) < (s.size : Int) := by omega
      by_cases hq : s[p] = 34
      · have hqI : (s[p].toNat : Int) = 34 := by rw [hq]; rfl
        have HZ := hide (show ∀ h : p < s.size, s[p] = 34 from fun _ => hq)
        clear hq
        have HE2 := hide (fun q => eat1_any (show RdK (wr.drewN q) g s 0 ((bl s).drop p) b1 from ⟨p, HWk.out.drewN q, hs, by omega, (fun _ => hp2), rfl⟩) (by omega) ⟨#[34]⟩ (by decide) (by decide))
        have HGq := hide (fun q => only_drewN HG.out q)
        have hi0 : (0 : Int) ≤ (n : Int) := by omega
        have hi1 : (n : Int) ≤ (p : Int) := by omega
        have hi2 : (p : Int) ≤ (s.size : Int) := by omega
        go_wp2_with fail
        go_quiet (fail)
        go_wp2_with fail
        refine (HE2.out _).mono ?_
        rintro e w5 ⟨ok2, l4, rfl, h5, he5, hg5⟩
        have HR5 := hide h5
        have HG5 := hide (only_trans (HGq.out _) hg5)
        have HE5 := hide (show Eaten [34] ((bl s).drop p) ok2 l4 from he5)
        obtain ⟨n5, hr5, -⟩ := h5
        clear c0 c1 y1 lg he5 hg5 HGq HE2 HWk HG
        have c0 := hr5.cell 0
        have lg := hr5.lt
        have HLW := hide (text_law HE1.out HL2.out hp1 hp2 HPA.out HZ.out HE5.out)
        clear hr5
        go_wp2
        go_ret
        refine ⟨s.extract n p, l4, b1 || !ok2, rfl, by rw [ByteArray.size_extract]; omega, HR5.out, ?_, ?_, HG5.out⟩
        · rw [HBB.out]; exact HLW.out.1
        · rw [HBB.out]; exact HLW.out.2
      · have hqI : ¬ ((s[p].toNat : Int) = 34) := fun e => hq (UInt8.toNat_inj.1 (show s[p].toNat = 34 from by omega))
        have HPS := hide (show ∀ i (h : i < s.size), n ≤ i → i < p + 1 → s[i] ≠ 34 from fun i h h1 h2 => by
          by_cases e : i = p
          · subst e; exact hq
          · exact HPA.out i h h1 (by omega))
        have HW5 := hide (show ∀ q, Row ((wr.drewN q).setCell ⟨g, 1, none⟩ (.int .i64 ((p : Int) + 1))) g 75 [.string s, .int .i64 ((p + 1 : Nat) : Int), .bool b1] from fun q => by rw [show ((p + 1 : Nat) : Int) = (p : Int) + 1 by omega]; exact (HWk.out.drewN q).set 1 _)
        have k4 : IntKind.i64.wrap ((p : Int) + 1) = (p : Int) + 1 := wrapI _ (by omega) (by omega)
        clear hq
        go_wp2_with fail
        go_quiet (fail)
        go_wp2
        go_roundw
        case rel => exact ⟨p + 1, by omega, by omega, HPS.out, HW5.out _, only_setCell (p := ⟨g, 1, none⟩) (only_drewN HG.out _) (.inl rfl) _⟩
        case measure => rw [posMeas_eq (HW5.out _), HME.out]; omega
    · have hltI : ¬ ((p : Int) < (s.size : Int)) := by omega
      have HZ := hide (show ∀ h : p < s.size, s[p] = 34 from fun h => absurd h hlt)
      have HE2 := hide (fun q => eat1_any (show RdK (wr.drewN q) g s 0 ((bl s).drop p) b1 from ⟨p, HWk.out.drewN q, hs, by omega, (fun _ => hp2), rfl⟩) (by omega) ⟨#[34]⟩ (by decide) (by decide))
      have HGq := hide (fun q => only_drewN HG.out q)
      have hi0 : (0 : Int) ≤ (n : Int) := by omega
      have hi1 : (n : Int) ≤ (p : Int) := by omega
      have hi2 : (p : Int) ≤ (s.size : Int) := by omega
      go_wp2_with fail
      go_quiet (fail)
      go_wp2_with fail
      refine (HE2.out _).mono ?_
      rintro e w5 ⟨ok2, l4, rfl, h5, he5, hg5⟩
      have HR5 := hide h5
      have HG5 := hide (only_trans (HGq.out _) hg5)
      have HE5 := hide (show Eaten [34] ((bl s).drop p) ok2 l4 from he5)
      obtain ⟨n5, hr5, -⟩ := h5
      clear c0 c1 y1 lg he5 hg5 HGq HE2 HWk HG
      have c0 := hr5.cell 0
      have lg := hr5.lt
      have HLW := hide (text_law HE1.out HL2.out hp1 hp2 HPA.out HZ.out HE5.out)
      clear hr5
      go_wp2
      go_ret
      refine ⟨s.extract n p, l4, b1 || !ok2, rfl, by rw [ByteArray.size_extract]; omega, HR5.out, ?_, ?_, HG5.out⟩
      · rw [HBB.out]; exact HLW.out.1
      · rw [HBB.out]; exact HLW.out.2
end Go.Proofs.YtnaecdoeldoipaaGreatDoor
