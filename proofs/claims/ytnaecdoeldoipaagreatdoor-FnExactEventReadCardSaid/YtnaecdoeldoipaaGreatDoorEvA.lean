/-
  The reference's name up to an @, its number up to a byte that is no digit, and its number where the reader is bad already. Printed by gen/ern.py. What EventRead hands back: plain. EventRead of the reference. Printed by gen/ers.py. EventRead of the program. Printed by gen/eri.py. The laws' marks at an Event by value. The laws' marks at an Event by value, as the general walk wants them; how much EventUnpack's answer counts. Marks of what EventRead hands back. FnExactEventRead returns true for every input: the program answers as the reference. No condition.
-/
import Derived.Test.YtnaecdoeldoipaaGreatDoorTrS1
import Derived.Test.YtnaecdoeldoipaaGreatDoorTrA
import Derived.Lib.IndexMore
import Derived.Lib.IndexBytes
import Derived.Deep.Cut
import Derived.Deep.RegionHeld3
set_option linter.unusedVariables false
set_option linter.unusedSimpArgs false
namespace Go.Proofs.YtnaecdoeldoipaaGreatDoor
open Go.ChangeShapes Go.WideShapes Go.ChangeAt Go.RowKit

/-- a name is taken, and the @ behind it stays -/
def Named64 (l : List UInt8) (x : ByteArray) (l' : List UInt8) : Prop := l = bl x ++ l' ∧ ∀ n r, NameOk n → l = bl n ++ 64 :: r → x = n ∧ l' = 64 :: r
def NoDigit (R : List UInt8) : Prop := ∀ c r, R = c :: r → ¬ (48 ≤ c.toNat ∧ c.toNat ≤ 57)
def NumTakenD (l : List UInt8) (bad : Bool) (n : Int) (l' : List UInt8) (bad' : Bool) : Prop :=
  ∀ (z : Int) (R : List UInt8), -999999999 ≤ z ∧ z ≤ 999999999 → NoDigit R → bad = false → l = bl (dec z) ++ R → n = z ∧ bad' = false ∧ l' = R
def NumOutB (g : Nat) (s : ByteArray) (w : World) (e : Ending) (w' : World) : Prop :=
  ∃ (n : Int) (l' : List UInt8), e = .returned (.int .i64 n) ∧ (-9999999999 ≤ n ∧ n ≤ 9999999999) ∧ RdK w' g s 0 l' true ∧ w.grownBy w' (some g)
def NameOut64 (g : Nat) (s : ByteArray) (m : Nat) (l : List UInt8) (bad : Bool) (w : World) (e : Ending) (w' : World) : Prop :=
  ∃ (x : ByteArray) (l' : List UInt8), e = .returned (.string x) ∧ x.size ≤ 10000 ∧ RdK w' g s m l' bad ∧ Named64 l x l' ∧ w.grownBy w' (some g)
theorem named64_at {s : ByteArray} {n k : Nat} (hnk : n ≤ k) (hk : k ≤ s.size) (ha : ∀ j (h : j < s.size), n ≤ j → j < k → nameCh s[j] = true) (hz : ∀ h : k < s.size, nameCh s[k] = false) : Named64 ((bl s).drop n) (s.extract n k) ((bl s).drop k) := by
  have e0 : (bl s).drop n = bl (s.extract n k) ++ (bl s).drop k := by
    rw [sub_bl]
    have e := List.take_append_drop (k - n) ((bl s).drop n)
    rw [List.drop_drop, show n + (k - n) = k by omega] at e
    exact e.symm
  refine ⟨e0, fun x r hx e => ?_⟩
  have hl := congrArg List.length e
  rw [List.length_drop, List.length_append, bl_len, bl_len, List.length_cons] at hl
  have hge : ∀ j, j < (bl x).length → ((bl s).drop n)[j]? = (bl x)[j]? := fun j hj => by rw [e, List.getElem?_append_left hj]
  have hcol : ((bl s).drop n)[x.size]? = some 64 := by
    rw [e, List.getElem?_append_right (by rw [bl_len]; exact Nat.le_refl _), bl_len, Nat.sub_self]
    rfl
  rw [List.getElem?_drop] at hcol
  have hc1 : n + x.size < s.size := by omega
  have hc2 : s[n + x.size] = 64 := by
    rw [List.getElem?_eq_getElem (by rw [bl_len]; exact hc1), bl_get s _ hc1] at hcol
    injection hcol
  have hchars := nameOk_chars hx
  rw [List.all_eq_true] at hchars
  have hle : k ≤ n + x.size := Nat.le_of_not_lt (fun h => by
    have := ha (n + x.size) hc1 (by omega) h
    rw [hc2] at this
    exact absurd this (by decide))
  have hge2 : n + x.size ≤ k := Nat.le_of_not_lt (fun h => by
    have hks : k < s.size := by omega
    have h1 := hz hks
    have h2 := hge (k - n) (by rw [bl_len]; omega)
    rw [List.getElem?_drop, show n + (k - n) = k by omega, List.getElem?_eq_getElem (by rw [bl_len]; exact hks), bl_get s _ hks, List.getElem?_eq_getElem (by rw [bl_len]; omega)] at h2
    injection h2 with h2
    have h3 := hchars _ (List.getElem_mem (l := bl x) (n := k - n) (by rw [bl_len]; omega))
    rw [← h2, h1] at h3
    cases h3)
  obtain rfl : k = n + x.size := by omega
  have hbx : bl (s.extract n (n + x.size)) = bl x := by
    rw [sub_bl, e, show n + x.size - n = (bl x).length by rw [bl_len]; omega, List.take_left]
  refine ⟨bl_inj hbx, ?_⟩
  rw [hbx, e] at e0
  exact (List.append_cancel_left e0).symm
set_option maxRecDepth 100000 in
set_option maxHeartbeats 2000000 in
theorem name64_any {s : ByteArray} {m : Nat} {l : List UInt8} {bad : Bool} {g : Nat} {w : World} (h : RdK w g s m l bad) (hm : m ≤ 100) (hat : ∃ n, n ≤ s.size ∧ w.cell? ⟨g, 1, none⟩ = some (.int .i64 (n : Int))) :
    Calls Tryz.prog 64 #[.pointer (some ⟨g, 0, none⟩)] w (NameOut64 g s m l bad w) := by
  obtain ⟨n, hr, h1, h2, h3, rfl⟩ := h
  have hns : n ≤ s.size := by
    obtain ⟨n', hn', hc⟩ := hat
    have := hr.cell 1
    rw [hc] at this
    simp at this
    omega
  have HR := hide hr
  have r1 := hr.cell 1
  have lr := hr.lt
  have H3 := hide h3
  clear hr hat h3
  go_enter Tryz.func64, Tryz.ntmps64
  go_wp2
  go_loopw [] (fun wr => ∃ k : Nat, n ≤ k ∧ k ≤ s.size ∧ (∀ j (h : j < s.size), n ≤ j → j < k → nameCh s[j] = true) ∧ Row wr g 75 [.string s, .int .i64 (k : Int), .bool bad] ∧ w.grownBy wr (some g)) (fun wr => match wr.cell? ⟨g, 1, none⟩ with | some (.int _ i) => s.size - i.toNat | _ => 0)
  case atStart => exact ⟨n, Nat.le_refl _, hns, fun j h h1 h2 => by omega, HR.out, grown_refl _ _⟩
  case round =>
    obtain ⟨k, hk1, hk2, hka, hrk, hg⟩ := hrel
    have HRk := hide hrk
    have HA := hide hka
    have HG := hide hg
    have hL : RdK wr g s m ((bl s).drop k) bad := ⟨k, hrk, h1, by omega, fun _ => hk2, rfl⟩
    have k1 := hrk.cell 1
    have kf := hrk.frozen 1
    have k0 := hrk.cell 0
    have kl := hrk.lt
    obtain ⟨c, hc⟩ : ∃ c, ((bl s).drop k).headD 0 = c := ⟨_, rfl⟩
    have HL := hide (fun (q : Nat) => show Calls Tryz.prog 104 #[.pointer (some ⟨g, 0, none⟩)] (wr.drewN q) fun e w' => e = .returned (.int .u8 (c.toNat : Int)) ∧ ∃ q, w' = wr.drewN q from
      (look1_any (hL.drewN q) hm).mono (fun e w' ⟨he, q', hw⟩ => ⟨by rw [he, hc], q + q', by rw [hw, World.drewN_drewN]⟩))
    have HL0 := hide (show Calls Tryz.prog 104 #[.pointer (some ⟨g, 0, none⟩)] wr fun e w' => e = .returned (.int .u8 (c.toNat : Int)) ∧ ∃ q, w' = wr.drewN q from
      (look1_any hL hm).mono (fun e w' ⟨he, q', hw⟩ => ⟨by rw [he, hc], q', hw⟩))
    have HC := hide (fun (h : k < s.size) => show s[k] = c from (look_head h).symm.trans hc)
    have HC0 := hide (fun (h : s.size ≤ k) => show c = 0 from hc.symm.trans (look_end h))
    have hcl := c.toNat_lt
    clear hrk hka hg hL hc
    by_cases hyes : nameCh c = true
    · have hks : k < s.size := Nat.lt_of_not_le (fun h => by rw [HC0.out h] at hyes; exact absurd hyes (by decide))
      have HYES := hide (show ∀ j (h : j < s.size), n ≤ j → j < k + 1 → nameCh s[j] = true from fun j h hj1 hj2 => by
        by_cases e : j < k
        · exact HA.out j h hj1 e
        · obtain rfl : j = k := by omega
          rw [HC.out h]; exact hyes)
      have hor : (97 ≤ (c.toNat : Int) ∧ (c.toNat : Int) ≤ 122) ∨ (¬ (97 ≤ (c.toNat : Int)) ∧ 48 ≤ (c.toNat : Int) ∧ (c.toNat : Int) ≤ 57) := by
        simp only [nameCh, Bool.or_eq_true, Bool.and_eq_true, decide_eq_true_eq] at hyes
        omega
      clear hyes HC HC0
      rcases hor with ⟨a1, a2⟩ | ⟨a1, b1, b2⟩
      all_goals
        go_wp2_with (first | (go_at_call 104; (first | refine HL0.out.mono ?_ | refine (HL.out _).mono ?_); rintro e w2 ⟨rfl, q2, rfl⟩) | fail)
        have hrow := (HRk.out.drewN q2).set 1 (.int .i64 ((k : Int) + 1))
        have e1 := hrow.cell 1
        simp only [List.set_cons_succ, List.set_cons_zero, List.getElem?_cons_succ, List.getElem?_cons_zero] at e1
        refine ⟨⟨k + 1, by omega, by omega, HYES.out, by rw [show ((k + 1 : Nat) : Int) = (k : Int) + 1 by omega]; exact hrow, only_setCell (p := ⟨g, 1, none⟩) (only_drewN HG.out _) (.inl rfl) _⟩, ?_⟩
        rw [e1, k1]
        show s.size - ((k : Int) + 1).toNat < s.size - (k : Int).toNat
        omega
    · have HNO := hide (show ∀ h : k < s.size, nameCh s[k] = false from fun h => by rw [HC.out h]; simpa using hyes)
      have hor : (97 ≤ (c.toNat : Int) ∧ ¬ ((c.toNat : Int) ≤ 122) ∧ 48 ≤ (c.toNat : Int) ∧ ¬ ((c.toNat : Int) ≤ 57)) ∨ (¬ (97 ≤ (c.toNat : Int)) ∧ 48 ≤ (c.toNat : Int) ∧ ¬ ((c.toNat : Int) ≤ 57)) ∨ (¬ (97 ≤ (c.toNat : Int)) ∧ ¬ (48 ≤ (c.toNat : Int))) := by
        simp only [nameCh, Bool.or_eq_true, Bool.and_eq_true, decide_eq_true_eq] at hyes
        omega
      have hs0 : (0 : Int) ≤ (n : Int) := by omega
      have hs1 : (n : Int) ≤ (k : Int) := by omega
      have hs2 : (k : Int) ≤ (s.size : Int) := by omega
      clear hyes HC HC0
      rcases hor with ⟨a1, a2, b1, b2⟩ | ⟨a1, b1, b2⟩ | ⟨a1, b1⟩
      all_goals
        go_wp2_with (first | (go_at_call 104; (first | refine HL0.out.mono ?_ | refine (HL.out _).mono ?_); rintro e w2 ⟨rfl, q2, rfl⟩) | fail)
        go_quiet (fail)
        go_wp2
        go_ret
        exact ⟨s.extract n k, (bl s).drop k, rfl, by rw [ByteArray.size_extract]; omega, ⟨k, HRk.out, h1, by omega, fun _ => hk2, rfl⟩, named64_at hk1 hk2 HA.out HNO.out, only_drewN (only_drewN HG.out _) _⟩
theorem numOf10_decD (z : Int) (hz : -999999999 ≤ z ∧ z ≤ 999999999) (R : List UInt8) (hR : NoDigit R) : (numOf10 (bl (dec z) ++ R)).1 = z ∧ (bl (dec z) ++ R).drop (numOf10 (bl (dec z) ++ R)).2 = R ∧ (if (bl (dec z) ++ R).headD 0 = 45 then 1 else 0) < (numOf10 (bl (dec z) ++ R)).2 := by
  have e : bl (dec z) = Lib.itoa z := by unfold bl; exact dec_bytes z
  rw [e]
  unfold Lib.itoa
  have hlen : ∀ u : Nat, u ≤ 999999999 → 1 ≤ (Lib.decDigits u).length := fun u _ => by rw [Lib.decDigits]; split <;> simp
  split
  · rename_i hneg
    have hu : z.natAbs ≤ 999999999 := by omega
    have h1 := numK_digits' (Lib.decDigits z.natAbs) 10 0 R (digits_mem _ _ (Nat.le_refl _)) (decDigits_nine _ hu) hR
    have h2 := valD_digits _ z.natAbs (Nat.le_refl _)
    unfold numOf10
    simp only [List.cons_append, List.headD_cons, if_true, List.drop_succ_cons, List.drop_zero]
    rw [h1, h2]
    refine ⟨by simp only; omega, ?_, by have := hlen _ hu; simp only; omega⟩
    simp only
    rw [Nat.add_comm, List.drop_succ_cons, List.drop_left]
  · rename_i hneg
    have hu : z.toNat ≤ 999999999 := by omega
    have h1 := numK_digits' (Lib.decDigits z.toNat) 10 0 R (digits_mem _ _ (Nat.le_refl _)) (decDigits_nine _ hu) hR
    have h2 := valD_digits _ z.toNat (Nat.le_refl _)
    have h3 := hlen _ hu
    have h4 : (Lib.decDigits z.toNat ++ R).headD 0 ≠ 45 := by
      match hd : Lib.decDigits z.toNat, h3 with
      | d :: ds, _ =>
        have := digits_mem _ z.toNat (Nat.le_refl _) d (by rw [hd]; simp)
        simp only [List.cons_append, List.headD_cons]
        rintro rfl
        revert this
        decide
    unfold numOf10
    rw [if_neg h4, if_neg h4, h1, h2]
    exact ⟨by simp only; omega, by simp only; rw [List.drop_left], by simp only; omega⟩
def NumOutD (g : Nat) (s : ByteArray) (l : List UInt8) (w : World) (e : Ending) (w' : World) : Prop :=
  ∃ (n : Int) (l' : List UInt8) (bad' : Bool), e = .returned (.int .i64 n) ∧ (-9999999999 ≤ n ∧ n ≤ 9999999999) ∧ RdK w' g s 0 l' bad' ∧ NumTakenD l false n l' bad' ∧ (l'.length ≤ l.length ∧ (bad' = false → l'.length < l.length)) ∧ w.grownBy w' (some g)
theorem num_taken_negD {l : List UInt8} {acc : Int} {j : Nat} (hc : l.headD 0 = 45) (hk : numK 10 0 (l.drop 1) = (acc, j)) : NumTakenD l false (-acc) (l.drop (1 + j)) (decide (j = 0)) := by
  intro z R h1 hR _ e
  have h := numOf10_decD z h1 R hR
  rw [← e] at h
  unfold numOf10 at h
  rw [if_pos hc, hk, if_pos hc] at h
  simp only at h
  exact ⟨h.1, by simp; omega, h.2.1⟩
theorem num_taken_posD {l : List UInt8} {acc : Int} {j : Nat} (hc : ¬ l.headD 0 = 45) (hk : numK 10 0 l = (acc, j)) : NumTakenD l false acc (l.drop j) (decide (j = 0)) := by
  intro z R h1 hR _ e
  have h := numOf10_decD z h1 R hR
  rw [← e] at h
  unfold numOf10 at h
  rw [if_neg hc, hk, if_neg hc] at h
  simp only at h
  exact ⟨h.1, by simp; omega, h.2.1⟩
set_option maxRecDepth 100000 in
set_option maxHeartbeats 4000000 in
theorem num1d_any {s : ByteArray} {l : List UInt8} {g : Nat} {w : World} (h : RdK w g s 0 l false) :
    Calls Tryz.prog 66 #[.pointer (some ⟨g, 0, none⟩)] w (NumOutD g s l w) := by
  obtain ⟨n0, hr, hs, _, hn, hl⟩ := h
  have hn0 := hn rfl
  have HW0 := hide hr
  have HLS := hide hl
  have HLE := hide (show l.length + n0 = s.size from by rw [hl, List.length_drop, bl_len]; omega)
  have HLK := hide (look1_any (show RdK w g s 0 l false from ⟨n0, hr, hs, by omega, (fun _ => hn0), hl⟩) (by omega))
  obtain ⟨c, hc⟩ : ∃ c, l.headD 0 = c := ⟨_, rfl⟩
  have HCL := hide hc
  clear hr hl hn
  go_enter Tryz.func66, Tryz.ntmps66
  go_wp2_with fail
  refine HLK.out.mono ?_
  rintro e v0 ⟨rfl, q0, hv0⟩
  rw [hc]
  have HWz := hide (show Row v0 g 75 [.string s, .int .i64 (n0 : Int), .bool false] from by rw [hv0]; exact HW0.out.drewN q0)
  have HGz := hide (show w.grownBy v0 (some g) from by rw [hv0]; exact only_drewN (grown_refl w (some g)) q0)
  clear hv0 HLK HW0 hc
  have c0 := HWz.out.cell 0
  have c1 := HWz.out.cell 1
  have y1 := HWz.out.frozen 1
  have lg := HWz.out.lt
  by_cases hneg : c = 45
  · have hci : (c.toNat : Int) = 45 := by subst hneg; rfl
    have HC0 := hide (show l.headD 0 = 45 from HCL.out.trans hneg)
    have hl0 : 1 ≤ l.length := by
      cases l with
      | nil => exact absurd HC0.out (by decide)
      | cons a r => simp
    have hn1' : n0 + 1 ≤ s.size := by have := HLE.out; omega
    have k0 : IntKind.i64.wrap ((n0 : Int) + 1) = (n0 : Int) + 1 := wrapI _ (by omega) (by omega)
    clear hneg
    rw [hci]
    go_upto_region 6 with fail
    have HWy := hide (HWz.out.set 1 (.int .i64 ((n0 : Int) + 1)))
    have HGy := hide (only_setCell (p := ⟨g, 1, none⟩) HGz.out (.inl rfl) (.int .i64 ((n0 : Int) + 1)))
    clear c0 c1 y1 lg HWz HGz k0
    generalize (World.setCell _ _ _) = v1 at HWy HGy ⊢
    obtain ⟨n1, hn1⟩ : ∃ n1, n1 = n0 + 1 := ⟨_, rfl⟩
    have en : (n0 : Int) + 1 = (n1 : Int) := by omega
    rw [en]
    have HW1 := hide (show Row v1 g 75 [.string s, .int .i64 (n1 : Int), .bool false] from by have h := HWy.out; simp only [List.set_cons_succ, List.set_cons_zero] at h; rw [en] at h; exact h)
    have HG1 := HGy
    obtain ⟨l1, hl1⟩ : ∃ l1, l.drop 1 = l1 := ⟨_, rfl⟩
    have HLD := hide hl1.symm
    have HL1 := hide (show l1 = (bl s).drop n1 from by rw [← hl1, HLS.out, List.drop_drop, hn1]; first | done | rfl | (congr 1; omega))
    have HLEN := hide (show n1 + l1.length = s.size from by rw [← hl1, List.length_drop]; have := HLE.out; omega)
    have HN1 := hide hn1
    clear hl1 hn1 en HWy HGy HCL
    go_loopw [5] (fun nv wr => ∃ (j p : Nat) (acc : Int), nv = .int .i64 acc ∧ p = n1 + j ∧ NumAt l1 j acc ∧ Row wr g 75 [.string s, .int .i64 (p : Int), .bool false] ∧ w.grownBy wr (some g)) (fun _ wr => posMeas wr g s.size)
    case atStart => exact ⟨0, n1, 0, rfl, rfl, NumAt.start _, HW1.out, HG1.out⟩
    case round =>
      clear HW1 HG1
      obtain ⟨j, p, acc, rfl, hp, hn, hrow, hgr⟩ := hrel
      have HPJ := hide hp
      have HN := hide hn
      have HW := hide hrow
      have HG := hide hgr
      have hj10 := hn.1
      have hjl := hn.2.1
      have hab := hn.bd
      have HME := hide (posMeas_eq hrow)
      have hn1s : p ≤ s.size := by have := HLEN.out; omega
      have hn1b : n1 ≤ 10000 := by have := HLEN.out; omega
      clear hn hrow hgr hp
      obtain ⟨c, hc⟩ : ∃ c, (l1.drop j).headD 0 = c := ⟨_, rfl⟩
      have HCC := hide hc
      have hc256 := c.toNat_lt
      have HLK := hide (look1_any (show RdK wr g s 0 (l1.drop j) false from ⟨p, HW.out, hs, by omega, (fun _ => by omega), by rw [HL1.out, List.drop_drop, HPJ.out]⟩) (by omega))
      go_wp2_with fail
      refine HLK.out.mono ?_
      rintro e v2 ⟨rfl, q2, hv2⟩
      rw [hc]
      have HW2 := hide (show Row v2 g 75 [.string s, .int .i64 (p : Int), .bool false] from by rw [hv2]; exact HW.out.drewN q2)
      have HG2 := hide (show w.grownBy v2 (some g) from by rw [hv2]; exact only_drewN HG.out q2)
      clear hv2 HLK
      by_cases hlo : 48 ≤ (c.toNat : Int)
      rotate_left
      · clear hc
        have hk := HN.out.stop (.inr (fun h => hlo (by rw [HCC.out] at h; omega)))
        have HT := hide (show NumTakenD l false (-acc) (l.drop (1 + j)) (decide (j = 0)) from num_taken_negD HC0.out (by rw [← HLD.out]; exact hk))
        have hab := HN.out.bd
        have HLL := hide (show (l.drop (1 + j)) = (bl s).drop p from by rw [HLS.out, List.drop_drop, HPJ.out]; first | done | rfl | (congr 1; have := HN1.out; omega))
        have HLN := hide (show (l.drop (1 + j)).length ≤ l.length ∧ (decide (j = 0) = false → (l.drop (1 + j)).length < l.length) from by
          have := HLE.out
          have hll : l1.length ≤ l.length := by rw [HLD.out]; first | exact Nat.le_refl _ | (rw [List.length_drop]; omega)
          rw [List.length_drop]
          refine ⟨by omega, fun h => ?_⟩
          have : ¬ j = 0 := by simpa using h
          omega)
        have hacn : IntKind.i64.wrap (-acc) = -acc := wrapI _ (by omega) (by omega)
        clear hk
        have c0 := HW2.out.cell 0
        have c1 := HW2.out.cell 1
        have c2 := HW2.out.cell 2
        have y1 := HW2.out.frozen 1
        have y2 := HW2.out.frozen 2
        have lg := HW2.out.lt
        by_cases hj0 : j = 0
        · subst hj0
          have hpn : p = n1 := by have := HPJ.out; omega
          have hpI : ((p : Int) == (n1 : Int)) = true := by rw [hpn]; simp
          have hpJ : (p : Int) = (n1 : Int) := by omega
          clear hpn
          go_wp2
          go_ret
          exact ⟨(-acc), (l.drop (1 + 0)), true, rfl, ⟨by omega, by omega⟩, ⟨p, HW2.out.set 2 _, hs, by omega, (fun h => by cases h), HLL.out⟩, HT.out, ⟨HLN.out.1, fun h => by cases h⟩, only_setCell (p := ⟨g, 2, none⟩) HG2.out (.inl rfl) _⟩
        · have hj1 : ¬ ((p : Int) = (n1 : Int)) := by have := HPJ.out; omega
          have hj2 : ((p : Int) == (n1 : Int)) = false := beq_eq_false_iff_ne.2 hj1
          have hdj : decide (j = 0) = false := by simpa using hj0
          have HT2 := hide (show NumTakenD l false (-acc) (l.drop (1 + j)) false from by have h := HT.out; rw [hdj] at h; exact h)
          go_wp2
          go_ret
          exact ⟨(-acc), (l.drop (1 + j)), false, rfl, ⟨by omega, by omega⟩, ⟨p, HW2.out, hs, by omega, (fun _ => by omega), HLL.out⟩, HT2.out, ⟨HLN.out.1, fun _ => HLN.out.2 hdj⟩, HG2.out⟩
      have HLK := hide (look1_any (show RdK v2 g s 0 (l1.drop j) false from ⟨p, HW2.out, hs, by omega, (fun _ => by omega), by rw [HL1.out, List.drop_drop, HPJ.out]⟩) (by omega))
      go_wp2_with fail
      refine HLK.out.mono ?_
      rintro e v3 ⟨rfl, q3, hv3⟩
      rw [hc]
      have HW3 := hide (show Row v3 g 75 [.string s, .int .i64 (p : Int), .bool false] from by rw [hv3]; exact HW2.out.drewN q3)
      have HG3 := hide (show w.grownBy v3 (some g) from by rw [hv3]; exact only_drewN HG2.out q3)
      clear hv3 HLK
      by_cases hhi : (c.toNat : Int) ≤ 57
      rotate_left
      · clear hc
        have hk := HN.out.stop (.inr (fun h => hhi (by rw [HCC.out] at h; omega)))
        have HT := hide (show NumTakenD l false (-acc) (l.drop (1 + j)) (decide (j = 0)) from num_taken_negD HC0.out (by rw [← HLD.out]; exact hk))
        have hab := HN.out.bd
        have HLL := hide (show (l.drop (1 + j)) = (bl s).drop p from by rw [HLS.out, List.drop_drop, HPJ.out]; first | done | rfl | (congr 1; have := HN1.out; omega))
        have HLN := hide (show (l.drop (1 + j)).length ≤ l.length ∧ (decide (j = 0) = false → (l.drop (1 + j)).length < l.length) from by
          have := HLE.out
          have hll : l1.length ≤ l.length := by rw [HLD.out]; first | exact Nat.le_refl _ | (rw [List.length_drop]; omega)
          rw [List.length_drop]
          refine ⟨by omega, fun h => ?_⟩
          have : ¬ j = 0 := by simpa using h
          omega)
        have hacn : IntKind.i64.wrap (-acc) = -acc := wrapI _ (by omega) (by omega)
        clear hk
        have c0 := HW3.out.cell 0
        have c1 := HW3.out.cell 1
        have c2 := HW3.out.cell 2
        have y1 := HW3.out.frozen 1
        have y2 := HW3.out.frozen 2
        have lg := HW3.out.lt
        by_cases hj0 : j = 0
        · subst hj0
          have hpn : p = n1 := by have := HPJ.out; omega
          have hpI : ((p : Int) == (n1 : Int)) = true := by rw [hpn]; simp
          have hpJ : (p : Int) = (n1 : Int) := by omega
          clear hpn
          go_wp2
          go_ret
          exact ⟨(-acc), (l.drop (1 + 0)), true, rfl, ⟨by omega, by omega⟩, ⟨p, HW3.out.set 2 _, hs, by omega, (fun h => by cases h), HLL.out⟩, HT.out, ⟨HLN.out.1, fun h => by cases h⟩, only_setCell (p := ⟨g, 2, none⟩) HG3.out (.inl rfl) _⟩
        · have hj1 : ¬ ((p : Int) = (n1 : Int)) := by have := HPJ.out; omega
          have hj2 : ((p : Int) == (n1 : Int)) = false := beq_eq_false_iff_ne.2 hj1
          have hdj : decide (j = 0) = false := by simpa using hj0
          have HT2 := hide (show NumTakenD l false (-acc) (l.drop (1 + j)) false from by have h := HT.out; rw [hdj] at h; exact h)
          go_wp2
          go_ret
          exact ⟨(-acc), (l.drop (1 + j)), false, rfl, ⟨by omega, by omega⟩, ⟨p, HW3.out, hs, by omega, (fun _ => by omega), HLL.out⟩, HT2.out, ⟨HLN.out.1, fun _ => HLN.out.2 hdj⟩, HG3.out⟩
      have c0 := HW3.out.cell 0
      have c1 := HW3.out.cell 1
      have c2 := HW3.out.cell 2
      have y1 := HW3.out.frozen 1
      have y2 := HW3.out.frozen 2
      have lg := HW3.out.lt
      by_cases hj : j < 10
      rotate_left
      · have hjI : ¬ ((p : Int) < (n1 : Int) + 10) := by have := HPJ.out; omega
        clear c0 c1 c2 y1 y2 lg
        clear hc
        have hk := HN.out.stop (.inl (by omega))
        have HT := hide (show NumTakenD l false (-acc) (l.drop (1 + j)) (decide (j = 0)) from num_taken_negD HC0.out (by rw [← HLD.out]; exact hk))
        have hab := HN.out.bd
        have HLL := hide (show (l.drop (1 + j)) = (bl s).drop p from by rw [HLS.out, List.drop_drop, HPJ.out]; first | done | rfl | (congr 1; have := HN1.out; omega))
        have HLN := hide (show (l.drop (1 + j)).length ≤ l.length ∧ (decide (j = 0) = false → (l.drop (1 + j)).length < l.length) from by
          have := HLE.out
          have hll : l1.length ≤ l.length := by rw [HLD.out]; first | exact Nat.le_refl _ | (rw [List.length_drop]; omega)
          rw [List.length_drop]
          refine ⟨by omega, fun h => ?_⟩
          have : ¬ j = 0 := by simpa using h
          omega)
        have hacn : IntKind.i64.wrap (-acc) = -acc := wrapI _ (by omega) (by omega)
        clear hk
        have c0 := HW3.out.cell 0
        have c1 := HW3.out.cell 1
        have c2 := HW3.out.cell 2
        have y1 := HW3.out.frozen 1
        have y2 := HW3.out.frozen 2
        have lg := HW3.out.lt
        have hj0 : ¬ j = 0 := by omega
        · have hj1 : ¬ ((p : Int) = (n1 : Int)) := by have := HPJ.out; omega
          have hj2 : ((p : Int) == (n1 : Int)) = false := beq_eq_false_iff_ne.2 hj1
          have hdj : decide (j = 0) = false := by simpa using hj0
          have HT2 := hide (show NumTakenD l false (-acc) (l.drop (1 + j)) false from by have h := HT.out; rw [hdj] at h; exact h)
          go_wp2
          go_ret
          exact ⟨(-acc), (l.drop (1 + j)), false, rfl, ⟨by omega, by omega⟩, ⟨p, HW3.out, hs, by omega, (fun _ => by omega), HLL.out⟩, HT2.out, ⟨HLN.out.1, fun _ => HLN.out.2 hdj⟩, HG3.out⟩
      have hjI : (p : Int) < (n1 : Int) + 10 := by have := HPJ.out; omega
      have hac9 := HN.out.lt hj
      have HNS := hide (HN.out.step hj (by rw [HCC.out]; omega))
      rw [hc] at HNS
      go_upto_region 7 with fail
      clear c0 c1 c2 y1 y2 lg
      have HLK := hide (look1_any (show RdK v3 g s 0 (l1.drop j) false from ⟨p, HW3.out, hs, by omega, (fun _ => by omega), by rw [HL1.out, List.drop_drop, HPJ.out]⟩) (by omega))
      go_wp2_with fail
      refine HLK.out.mono ?_
      rintro e v4 ⟨rfl, q4, hv4⟩
      rw [hc]
      have HW4 := hide (show Row v4 g 75 [.string s, .int .i64 (p : Int), .bool false] from by rw [hv4]; exact HW3.out.drewN q4)
      have HG4 := hide (show w.grownBy v4 (some g) from by rw [hv4]; exact only_drewN HG3.out q4)
      clear hv4 HLK
      have hu := u8_sub' (c.toNat : Int) hlo hhi
      have k1 : IntKind.i64.wrap (acc * 10) = acc * 10 := wrapI _ (by omega) (by omega)
      have k2 : IntKind.i64.wrap (acc * 10 + ((c.toNat : Int) - 48)) = acc * 10 + ((c.toNat : Int) - 48) := wrapI _ (by omega) (by omega)
      have k3 : IntKind.i64.wrap ((c.toNat : Int) - 48) = (c.toNat : Int) - 48 := wrapI _ (by omega) (by omega)
      have k4 : IntKind.i64.wrap ((p : Int) + 1) = (p : Int) + 1 := wrapI _ (by omega) (by omega)
      have HW5 := hide (show Row (v4.setCell ⟨g, 1, none⟩ (.int .i64 ((p : Int) + 1))) g 75 [.string s, .int .i64 ((p + 1 : Nat) : Int), .bool false] from by rw [show ((p + 1 : Nat) : Int) = (p : Int) + 1 by omega]; exact HW4.out.set 1 _)
      have HG5 := hide (only_setCell (p := ⟨g, 1, none⟩) HG4.out (.inl rfl) (.int .i64 ((p : Int) + 1)))
      have c0 := HW4.out.cell 0
      have c1 := HW4.out.cell 1
      have c2 := HW4.out.cell 2
      have y1 := HW4.out.frozen 1
      have y2 := HW4.out.frozen 2
      have lg := HW4.out.lt
      clear hc
      go_wp2
      go_roundw
      case rel =>
        have hpj2 : p + 1 = n1 + (j + 1) := by have := HPJ.out; omega
        first | exact ⟨j + 1, p + 1, _, rfl, hpj2, HNS.out, HW5.out, HG5.out⟩ | exact ⟨_, _, _, _, _, _, _, _, _, _, _, _, _, _, _, _, _, _, _, _, _, _, _, _, _, _, _, _, _, _, _, _, _, ⟨j + 1, p + 1, acc * 10 + ((c.toNat : Int) - 48), by first | rfl | go_num | (congr 1; simp only [wrap64]; omega), hpj2, HNS.out, HW5.out, HG5.out⟩, rfl⟩
      case measure => rw [posMeas_eq HW5.out, HME.out]; have := HNS.out.2.1; have := HLEN.out; have := HPJ.out; omega
  · have hci : ¬ ((c.toNat : Int) = 45) := fun e => hneg (UInt8.toNat_inj.1 (show c.toNat = 45 from by omega))
    have HC0 := hide (show ¬ l.headD 0 = 45 from fun e => hneg (HCL.out.symm.trans e))
    have hcb : ((c.toNat : Int) == 45) = false := beq_eq_false_iff_ne.2 hci
    clear hneg
    go_upto_region 6 with fail
    obtain ⟨n1, hn1⟩ : ∃ n1, n1 = n0 := ⟨_, rfl⟩
    rw [← hn1] at HWz HLS HLE hn0 ⊢
    have HW1 := hide (show Row v0 g 75 [.string s, .int .i64 (n1 : Int), .bool false] from HWz.out)
    have HG1 := HGz
    obtain ⟨l1, hl1⟩ : ∃ l1, l = l1 := ⟨_, rfl⟩
    have HLD := hide hl1.symm
    have HL1 := hide (show l1 = (bl s).drop n1 from by rw [← hl1, HLS.out])
    have HLEN := hide (show n1 + l1.length = s.size from by rw [← hl1]; have := HLE.out; omega)
    have HN1 := hide (show n1 = n1 from rfl)
    clear c0 c1 y1 lg hl1 hn1 HWz HGz HCL
    go_loopw [5] (fun nv wr => ∃ (j p : Nat) (acc : Int), nv = .int .i64 acc ∧ p = n1 + j ∧ NumAt l1 j acc ∧ Row wr g 75 [.string s, .int .i64 (p : Int), .bool false] ∧ w.grownBy wr (some g)) (fun _ wr => posMeas wr g s.size)
    case atStart => exact ⟨0, n1, 0, rfl, rfl, NumAt.start _, HW1.out, HG1.out⟩
    case round =>
      clear HW1 HG1
      obtain ⟨j, p, acc, rfl, hp, hn, hrow, hgr⟩ := hrel
      have HPJ := hide hp
      have HN := hide hn
      have HW := hide hrow
      have HG := hide hgr
      have hj10 := hn.1
      have hjl := hn.2.1
      have hab := hn.bd
      have HME := hide (posMeas_eq hrow)
      have hn1s : p ≤ s.size := by have := HLEN.out; omega
      have hn1b : n1 ≤ 10000 := by have := HLEN.out; omega
      clear hn hrow hgr hp
      obtain ⟨c, hc⟩ : ∃ c, (l1.drop j).headD 0 = c := ⟨_, rfl⟩
      have HCC := hide hc
      have hc256 := c.toNat_lt
      have HLK := hide (look1_any (show RdK wr g s 0 (l1.drop j) false from ⟨p, HW.out, hs, by omega, (fun _ => by omega), by rw [HL1.out, List.drop_drop, HPJ.out]⟩) (by omega))
      go_wp2_with fail
      refine HLK.out.mono ?_
      rintro e v2 ⟨rfl, q2, hv2⟩
      rw [hc]
      have HW2 := hide (show Row v2 g 75 [.string s, .int .i64 (p : Int), .bool false] from by rw [hv2]; exact HW.out.drewN q2)
      have HG2 := hide (show w.grownBy v2 (some g) from by rw [hv2]; exact only_drewN HG.out q2)
      clear hv2 HLK
      by_cases hlo : 48 ≤ (c.toNat : Int)
      rotate_left
      · clear hc
        have hk := HN.out.stop (.inr (fun h => hlo (by rw [HCC.out] at h; omega)))
        have HT := hide (show NumTakenD l false acc (l.drop j) (decide (j = 0)) from num_taken_posD HC0.out (by rw [← HLD.out]; exact hk))
        have hab := HN.out.bd
        have HLL := hide (show (l.drop j) = (bl s).drop p from by rw [HLS.out, List.drop_drop, HPJ.out]; first | done | rfl | (congr 1; have := HN1.out; omega))
        have HLN := hide (show (l.drop j).length ≤ l.length ∧ (decide (j = 0) = false → (l.drop j).length < l.length) from by
          have := HLE.out
          have hll : l1.length ≤ l.length := by rw [HLD.out]; first | exact Nat.le_refl _ | (rw [List.length_drop]; omega)
          rw [List.length_drop]
          refine ⟨by omega, fun h => ?_⟩
          have : ¬ j = 0 := by simpa using h
          omega)
        have hacn : IntKind.i64.wrap (-acc) = -acc := wrapI _ (by omega) (by omega)
        clear hk
        have c0 := HW2.out.cell 0
        have c1 := HW2.out.cell 1
        have c2 := HW2.out.cell 2
        have y1 := HW2.out.frozen 1
        have y2 := HW2.out.frozen 2
        have lg := HW2.out.lt
        by_cases hj0 : j = 0
        · subst hj0
          have hpn : p = n1 := by have := HPJ.out; omega
          have hpI : ((p : Int) == (n1 : Int)) = true := by rw [hpn]; simp
          have hpJ : (p : Int) = (n1 : Int) := by omega
          clear hpn
          go_wp2
          go_ret
          exact ⟨acc, (l.drop 0), true, rfl, ⟨by omega, by omega⟩, ⟨p, HW2.out.set 2 _, hs, by omega, (fun h => by cases h), HLL.out⟩, HT.out, ⟨HLN.out.1, fun h => by cases h⟩, only_setCell (p := ⟨g, 2, none⟩) HG2.out (.inl rfl) _⟩
        · have hj1 : ¬ ((p : Int) = (n1 : Int)) := by have := HPJ.out; omega
          have hj2 : ((p : Int) == (n1 : Int)) = false := beq_eq_false_iff_ne.2 hj1
          have hdj : decide (j = 0) = false := by simpa using hj0
          have HT2 := hide (show NumTakenD l false acc (l.drop j) false from by have h := HT.out; rw [hdj] at h; exact h)
          go_wp2
          go_ret
          exact ⟨acc, (l.drop j), false, rfl, ⟨by omega, by omega⟩, ⟨p, HW2.out, hs, by omega, (fun _ => by omega), HLL.out⟩, HT2.out, ⟨HLN.out.1, fun _ => HLN.out.2 hdj⟩, HG2.out⟩
      have HLK := hide (look1_any (show RdK v2 g s 0 (l1.drop j) false from ⟨p, HW2.out, hs, by omega, (fun _ => by omega), by rw [HL1.out, List.drop_drop, HPJ.out]⟩) (by omega))
      go_wp2_with fail
      refine HLK.out.mono ?_
      rintro e v3 ⟨rfl, q3, hv3⟩
      rw [hc]
      have HW3 := hide (show Row v3 g 75 [.string s, .int .i64 (p : Int), .bool false] from by rw [hv3]; exact HW2.out.drewN q3)
      have HG3 := hide (show w.grownBy v3 (some g) from by rw [hv3]; exact only_drewN HG2.out q3)
      clear hv3 HLK
      by_cases hhi : (c.toNat : Int) ≤ 57
      rotate_left
      · clear hc
        have hk := HN.out.stop (.inr (fun h => hhi (by rw [HCC.out] at h; omega)))
        have HT := hide (show NumTakenD l false acc (l.drop j) (decide (j = 0)) from num_taken_posD HC0.out (by rw [← HLD.out]; exact hk))
        have hab := HN.out.bd
        have HLL := hide (show (l.drop j) = (bl s).drop p from by rw [HLS.out, List.drop_drop, HPJ.out]; first | done | rfl | (congr 1; have := HN1.out; omega))
        have HLN := hide (show (l.drop j).length ≤ l.length ∧ (decide (j = 0) = false → (l.drop j).length < l.length) from by
          have := HLE.out
          have hll : l1.length ≤ l.length := by rw [HLD.out]; first | exact Nat.le_refl _ | (rw [List.length_drop]; omega)
          rw [List.length_drop]
          refine ⟨by omega, fun h => ?_⟩
          have : ¬ j = 0 := by simpa using h
          omega)
        have hacn : IntKind.i64.wrap (-acc) = -acc := wrapI _ (by omega) (by omega)
        clear hk
        have c0 := HW3.out.cell 0
        have c1 := HW3.out.cell 1
        have c2 := HW3.out.cell 2
        have y1 := HW3.out.frozen 1
        have y2 := HW3.out.frozen 2
        have lg := HW3.out.lt
        by_cases hj0 : j = 0
        · subst hj0
          have hpn : p = n1 := by have := HPJ.out; omega
          have hpI : ((p : Int) == (n1 : Int)) = true := by rw [hpn]; simp
          have hpJ : (p : Int) = (n1 : Int) := by omega
          clear hpn
          go_wp2
          go_ret
          exact ⟨acc, (l.drop 0), true, rfl, ⟨by omega, by omega⟩, ⟨p, HW3.out.set 2 _, hs, by omega, (fun h => by cases h), HLL.out⟩, HT.out, ⟨HLN.out.1, fun h => by cases h⟩, only_setCell (p := ⟨g, 2, none⟩) HG3.out (.inl rfl) _⟩
        · have hj1 : ¬ ((p : Int) = (n1 : Int)) := by have := HPJ.out; omega
          have hj2 : ((p : Int) == (n1 : Int)) = false := beq_eq_false_iff_ne.2 hj1
          have hdj : decide (j = 0) = false := by simpa using hj0
          have HT2 := hide (show NumTakenD l false acc (l.drop j) false from by have h := HT.out; rw [hdj] at h; exact h)
          go_wp2
          go_ret
          exact ⟨acc, (l.drop j), false, rfl, ⟨by omega, by omega⟩, ⟨p, HW3.out, hs, by omega, (fun _ => by omega), HLL.out⟩, HT2.out, ⟨HLN.out.1, fun _ => HLN.out.2 hdj⟩, HG3.out⟩
      have c0 := HW3.out.cell 0
      have c1 := HW3.out.cell 1
      have c2 := HW3.out.cell 2
      have y1 := HW3.out.frozen 1
      have y2 := HW3.out.frozen 2
      have lg := HW3.out.lt
      by_cases hj : j < 10
      rotate_left
      · have hjI : ¬ ((p : Int) < (n1 : Int) + 10) := by have := HPJ.out; omega
        clear c0 c1 c2 y1 y2 lg
        clear hc
        have hk := HN.out.stop (.inl (by omega))
        have HT := hide (show NumTakenD l false acc (l.drop j) (decide (j = 0)) from num_taken_posD HC0.out (by rw [← HLD.out]; exact hk))
        have hab := HN.out.bd
        have HLL := hide (show (l.drop j) = (bl s).drop p from by rw [HLS.out, List.drop_drop, HPJ.out]; first | done | rfl | (congr 1; have := HN1.out; omega))
        have HLN := hide (show (l.drop j).length ≤ l.length ∧ (decide (j = 0) = false → (l.drop j).length < l.length) from by
          have := HLE.out
          have hll : l1.length ≤ l.length := by rw [HLD.out]; first | exact Nat.le_refl _ | (rw [List.length_drop]; omega)
          rw [List.length_drop]
          refine ⟨by omega, fun h => ?_⟩
          have : ¬ j = 0 := by simpa using h
          omega)
        have hacn : IntKind.i64.wrap (-acc) = -acc := wrapI _ (by omega) (by omega)
        clear hk
        have c0 := HW3.out.cell 0
        have c1 := HW3.out.cell 1
        have c2 := HW3.out.cell 2
        have y1 := HW3.out.frozen 1
        have y2 := HW3.out.frozen 2
        have lg := HW3.out.lt
        have hj0 : ¬ j = 0 := by omega
        · have hj1 : ¬ ((p : Int) = (n1 : Int)) := by have := HPJ.out; omega
          have hj2 : ((p : Int) == (n1 : Int)) = false := beq_eq_false_iff_ne.2 hj1
          have hdj : decide (j = 0) = false := by simpa using hj0
          have HT2 := hide (show NumTakenD l false acc (l.drop j) false from by have h := HT.out; rw [hdj] at h; exact h)
          go_wp2
          go_ret
          exact ⟨acc, (l.drop j), false, rfl, ⟨by omega, by omega⟩, ⟨p, HW3.out, hs, by omega, (fun _ => by omega), HLL.out⟩, HT2.out, ⟨HLN.out.1, fun _ => HLN.out.2 hdj⟩, HG3.out⟩
      have hjI : (p : Int) < (n1 : Int) + 10 := by have := HPJ.out; omega
      have hac9 := HN.out.lt hj
      have HNS := hide (HN.out.step hj (by rw [HCC.out]; omega))
      rw [hc] at HNS
      go_upto_region 7 with fail
      clear c0 c1 c2 y1 y2 lg
      have HLK := hide (look1_any (show RdK v3 g s 0 (l1.drop j) false from ⟨p, HW3.out, hs, by omega, (fun _ => by omega), by rw [HL1.out, List.drop_drop, HPJ.out]⟩) (by omega))
      go_wp2_with fail
      refine HLK.out.mono ?_
      rintro e v4 ⟨rfl, q4, hv4⟩
      rw [hc]
      have HW4 := hide (show Row v4 g 75 [.string s, .int .i64 (p : Int), .bool false] from by rw [hv4]; exact HW3.out.drewN q4)
      have HG4 := hide (show w.grownBy v4 (some g) from by rw [hv4]; exact only_drewN HG3.out q4)
      clear hv4 HLK
      have hu := u8_sub' (c.toNat : Int) hlo hhi
      have k1 : IntKind.i64.wrap (acc * 10) = acc * 10 := wrapI _ (by omega) (by omega)
      have k2 : IntKind.i64.wrap (acc * 10 + ((c.toNat : Int) - 48)) = acc * 10 + ((c.toNat : Int) - 48) := wrapI _ (by omega) (by omega)
      have k3 : IntKind.i64.wrap ((c.toNat : Int) - 48) = (c.toNat : Int) - 48 := wrapI _ (by omega) (by omega)
      have k4 : IntKind.i64.wrap ((p : Int) + 1) = (p : Int) + 1 := wrapI _ (by omega) (by omega)
      have HW5 := hide (show Row (v4.setCell ⟨g, 1, none⟩ (.int .i64 ((p : Int) + 1))) g 75 [.string s, .int .i64 ((p + 1 : Nat) : Int), .bool false] from by rw [show ((p + 1 : Nat) : Int) = (p : Int) + 1 by omega]; exact HW4.out.set 1 _)
      have HG5 := hide (only_setCell (p := ⟨g, 1, none⟩) HG4.out (.inl rfl) (.int .i64 ((p : Int) + 1)))
      have c0 := HW4.out.cell 0
      have c1 := HW4.out.cell 1
      have c2 := HW4.out.cell 2
      have y1 := HW4.out.frozen 1
      have y2 := HW4.out.frozen 2
      have lg := HW4.out.lt
      clear hc
      go_wp2
      go_roundw
      case rel =>
        have hpj2 : p + 1 = n1 + (j + 1) := by have := HPJ.out; omega
        first | exact ⟨j + 1, p + 1, _, rfl, hpj2, HNS.out, HW5.out, HG5.out⟩ | exact ⟨_, _, _, _, _, _, _, _, _, _, _, _, _, _, _, _, _, _, _, _, _, _, _, _, _, _, _, _, _, _, _, _, _, ⟨j + 1, p + 1, acc * 10 + ((c.toNat : Int) - 48), by first | rfl | go_num | (congr 1; simp only [wrap64]; omega), hpj2, HNS.out, HW5.out, HG5.out⟩, rfl⟩
      case measure => rw [posMeas_eq HW5.out, HME.out]; have := HNS.out.2.1; have := HLEN.out; have := HPJ.out; omega
set_option maxRecDepth 100000 in
set_option maxHeartbeats 4000000 in
theorem num1b_any {s : ByteArray} {l : List UInt8} {g : Nat} {w : World} (h : RdK w g s 0 l true) :
    Calls Tryz.prog 66 #[.pointer (some ⟨g, 0, none⟩)] w (NumOutB g s w) := by
  obtain ⟨n0, hr, hs, _, hn, hl⟩ := h
  have hn0 : n0 ≤ s.size := by omega
  have HW0 := hide hr
  have HLS := hide hl
  have HLE := hide (show l.length + n0 = s.size from by rw [hl, List.length_drop, bl_len]; omega)
  have HLK := hide (look1_any (show RdK w g s 0 l true from ⟨n0, hr, hs, by omega, (fun h => by cases h), hl⟩) (by omega))
  obtain ⟨c, hc⟩ : ∃ c, l.headD 0 = c := ⟨_, rfl⟩
  have HCL := hide hc
  clear hr hl hn
  go_enter Tryz.func66, Tryz.ntmps66
  go_wp2_with fail
  refine HLK.out.mono ?_
  rintro e v0 ⟨rfl, q0, hv0⟩
  rw [hc]
  have HWz := hide (show Row v0 g 75 [.string s, .int .i64 (n0 : Int), .bool true] from by rw [hv0]; exact HW0.out.drewN q0)
  have HGz := hide (show w.grownBy v0 (some g) from by rw [hv0]; exact only_drewN (grown_refl w (some g)) q0)
  clear hv0 HLK HW0 hc
  have c0 := HWz.out.cell 0
  have c1 := HWz.out.cell 1
  have y1 := HWz.out.frozen 1
  have lg := HWz.out.lt
  by_cases hneg : c = 45
  · have hci : (c.toNat : Int) = 45 := by subst hneg; rfl
    have HC0 := hide (show l.headD 0 = 45 from HCL.out.trans hneg)
    have hl0 : 1 ≤ l.length := by
      cases l with
      | nil => exact absurd HC0.out (by decide)
      | cons a r => simp
    have hn1' : n0 + 1 ≤ s.size := by have := HLE.out; omega
    have k0 : IntKind.i64.wrap ((n0 : Int) + 1) = (n0 : Int) + 1 := wrapI _ (by omega) (by omega)
    clear hneg
    rw [hci]
    go_upto_region 6 with fail
    have HWy := hide (HWz.out.set 1 (.int .i64 ((n0 : Int) + 1)))
    have HGy := hide (only_setCell (p := ⟨g, 1, none⟩) HGz.out (.inl rfl) (.int .i64 ((n0 : Int) + 1)))
    clear c0 c1 y1 lg HWz HGz k0
    generalize (World.setCell _ _ _) = v1 at HWy HGy ⊢
    obtain ⟨n1, hn1⟩ : ∃ n1, n1 = n0 + 1 := ⟨_, rfl⟩
    have en : (n0 : Int) + 1 = (n1 : Int) := by omega
    rw [en]
    have HW1 := hide (show Row v1 g 75 [.string s, .int .i64 (n1 : Int), .bool true] from by have h := HWy.out; simp only [List.set_cons_succ, List.set_cons_zero] at h; rw [en] at h; exact h)
    have HG1 := HGy
    obtain ⟨l1, hl1⟩ : ∃ l1, l.drop 1 = l1 := ⟨_, rfl⟩
    have HLD := hide hl1.symm
    have HL1 := hide (show l1 = (bl s).drop n1 from by rw [← hl1, HLS.out, List.drop_drop, hn1]; first | done | rfl | (congr 1; omega))
    have HLEN := hide (show n1 + l1.length = s.size from by rw [← hl1, List.length_drop]; have := HLE.out; omega)
    have HN1 := hide hn1
    clear hl1 hn1 en HWy HGy HCL
    go_loopw [5] (fun nv wr => ∃ (j p : Nat) (acc : Int), nv = .int .i64 acc ∧ p = n1 + j ∧ NumAt l1 j acc ∧ Row wr g 75 [.string s, .int .i64 (p : Int), .bool true] ∧ w.grownBy wr (some g)) (fun _ wr => posMeas wr g s.size)
    case atStart => exact ⟨0, n1, 0, rfl, rfl, NumAt.start _, HW1.out, HG1.out⟩
    case round =>
      clear HW1 HG1
      obtain ⟨j, p, acc, rfl, hp, hn, hrow, hgr⟩ := hrel
      have HPJ := hide hp
      have HN := hide hn
      have HW := hide hrow
      have HG := hide hgr
      have hj10 := hn.1
      have hjl := hn.2.1
      have hab := hn.bd
      have HME := hide (posMeas_eq hrow)
      have hn1s : p ≤ s.size := by have := HLEN.out; omega
      have hn1b : n1 ≤ 10000 := by have := HLEN.out; omega
      clear hn hrow hgr hp
      obtain ⟨c, hc⟩ : ∃ c, (l1.drop j).headD 0 = c := ⟨_, rfl⟩
      have HCC := hide hc
      have hc256 := c.toNat_lt
      have HLK := hide (look1_any (show RdK wr g s 0 (l1.drop j) true from ⟨p, HW.out, hs, by omega, (fun _ => by omega), by rw [HL1.out, List.drop_drop, HPJ.out]⟩) (by omega))
      go_wp2_with fail
      refine HLK.out.mono ?_
      rintro e v2 ⟨rfl, q2, hv2⟩
      rw [hc]
      have HW2 := hide (show Row v2 g 75 [.string s, .int .i64 (p : Int), .bool true] from by rw [hv2]; exact HW.out.drewN q2)
      have HG2 := hide (show w.grownBy v2 (some g) from by rw [hv2]; exact only_drewN HG.out q2)
      clear hv2 HLK
      by_cases hlo : 48 ≤ (c.toNat : Int)
      rotate_left
      · clear hc
        have hk := HN.out.stop (.inr (fun h => hlo (by rw [HCC.out] at h; omega)))
        have HT := hide (show NumTaken l false (-acc) (l.drop (1 + j)) (decide (j = 0)) from num_taken_neg HC0.out (by rw [← HLD.out]; exact hk))
        have hab := HN.out.bd
        have HLL := hide (show (l.drop (1 + j)) = (bl s).drop p from by rw [HLS.out, List.drop_drop, HPJ.out]; first | done | rfl | (congr 1; have := HN1.out; omega))
        have HLN := hide (show (l.drop (1 + j)).length ≤ l.length ∧ (decide (j = 0) = false → (l.drop (1 + j)).length < l.length) from by
          have := HLE.out
          have hll : l1.length ≤ l.length := by rw [HLD.out]; first | exact Nat.le_refl _ | (rw [List.length_drop]; omega)
          rw [List.length_drop]
          refine ⟨by omega, fun h => ?_⟩
          have : ¬ j = 0 := by simpa using h
          omega)
        have hacn : IntKind.i64.wrap (-acc) = -acc := wrapI _ (by omega) (by omega)
        clear hk
        have c0 := HW2.out.cell 0
        have c1 := HW2.out.cell 1
        have c2 := HW2.out.cell 2
        have y1 := HW2.out.frozen 1
        have y2 := HW2.out.frozen 2
        have lg := HW2.out.lt
        by_cases hj0 : j = 0
        · subst hj0
          have hpn : p = n1 := by have := HPJ.out; omega
          have hpI : ((p : Int) == (n1 : Int)) = true := by rw [hpn]; simp
          have hpJ : (p : Int) = (n1 : Int) := by omega
          clear hpn
          go_wp2
          go_ret
          exact ⟨(-acc), (l.drop (1 + 0)), rfl, ⟨by omega, by omega⟩, ⟨p, HW2.out.set 2 _, hs, by omega, (fun h => by cases h), HLL.out⟩, only_setCell (p := ⟨g, 2, none⟩) HG2.out (.inl rfl) _⟩
        · have hj1 : ¬ ((p : Int) = (n1 : Int)) := by have := HPJ.out; omega
          have hj2 : ((p : Int) == (n1 : Int)) = false := beq_eq_false_iff_ne.2 hj1
          have hdj : decide (j = 0) = false := by simpa using hj0
          have HT2 := hide (show NumTaken l false (-acc) (l.drop (1 + j)) false from by have h := HT.out; rw [hdj] at h; exact h)
          go_wp2
          go_ret
          exact ⟨(-acc), (l.drop (1 + j)), rfl, ⟨by omega, by omega⟩, ⟨p, HW2.out, hs, by omega, (fun h => by cases h), HLL.out⟩, HG2.out⟩
      have HLK := hide (look1_any (show RdK v2 g s 0 (l1.drop j) true from ⟨p, HW2.out, hs, by omega, (fun _ => by omega), by rw [HL1.out, List.drop_drop, HPJ.out]⟩) (by omega))
      go_wp2_with fail
      refine HLK.out.mono ?_
      rintro e v3 ⟨rfl, q3, hv3⟩
      rw [hc]
      have HW3 := hide (show Row v3 g 75 [.string s, .int .i64 (p : Int), .bool true] from by rw [hv3]; exact HW2.out.drewN q3)
      have HG3 := hide (show w.grownBy v3 (some g) from by rw [hv3]; exact only_drewN HG2.out q3)
      clear hv3 HLK
      by_cases hhi : (c.toNat : Int) ≤ 57
      rotate_left
      · clear hc
        have hk := HN.out.stop (.inr (fun h => hhi (by rw [HCC.out] at h; omega)))
        have HT := hide (show NumTaken l false (-acc) (l.drop (1 + j)) (decide (j = 0)) from num_taken_neg HC0.out (by rw [← HLD.out]; exact hk))
        have hab := HN.out.bd
        have HLL := hide (show (l.drop (1 + j)) = (bl s).drop p from by rw [HLS.out, List.drop_drop, HPJ.out]; first | done | rfl | (congr 1; have := HN1.out; omega))
        have HLN := hide (show (l.drop (1 + j)).length ≤ l.length ∧ (decide (j = 0) = false → (l.drop (1 + j)).length < l.length) from by
          have := HLE.out
          have hll : l1.length ≤ l.length := by rw [HLD.out]; first | exact Nat.le_refl _ | (rw [List.length_drop]; omega)
          rw [List.length_drop]
          refine ⟨by omega, fun h => ?_⟩
          have : ¬ j = 0 := by simpa using h
          omega)
        have hacn : IntKind.i64.wrap (-acc) = -acc := wrapI _ (by omega) (by omega)
        clear hk
        have c0 := HW3.out.cell 0
        have c1 := HW3.out.cell 1
        have c2 := HW3.out.cell 2
        have y1 := HW3.out.frozen 1
        have y2 := HW3.out.frozen 2
        have lg := HW3.out.lt
        by_cases hj0 : j = 0
        · subst hj0
          have hpn : p = n1 := by have := HPJ.out; omega
          have hpI : ((p : Int) == (n1 : Int)) = true := by rw [hpn]; simp
          have hpJ : (p : Int) = (n1 : Int) := by omega
          clear hpn
          go_wp2
          go_ret
          exact ⟨(-acc), (l.drop (1 + 0)), rfl, ⟨by omega, by omega⟩, ⟨p, HW3.out.set 2 _, hs, by omega, (fun h => by cases h), HLL.out⟩, only_setCell (p := ⟨g, 2, none⟩) HG3.out (.inl rfl) _⟩
        · have hj1 : ¬ ((p : Int) = (n1 : Int)) := by have := HPJ.out; omega
          have hj2 : ((p : Int) == (n1 : Int)) = false := beq_eq_false_iff_ne.2 hj1
          have hdj : decide (j = 0) = false := by simpa using hj0
          have HT2 := hide (show NumTaken l false (-acc) (l.drop (1 + j)) false from by have h := HT.out; rw [hdj] at h; exact h)
          go_wp2
          go_ret
          exact ⟨(-acc), (l.drop (1 + j)), rfl, ⟨by omega, by omega⟩, ⟨p, HW3.out, hs, by omega, (fun h => by cases h), HLL.out⟩, HG3.out⟩
      have c0 := HW3.out.cell 0
      have c1 := HW3.out.cell 1
      have c2 := HW3.out.cell 2
      have y1 := HW3.out.frozen 1
      have y2 := HW3.out.frozen 2
      have lg := HW3.out.lt
      by_cases hj : j < 10
      rotate_left
      · have hjI : ¬ ((p : Int) < (n1 : Int) + 10) := by have := HPJ.out; omega
        clear c0 c1 c2 y1 y2 lg
        clear hc
        have hk := HN.out.stop (.inl (by omega))
        have HT := hide (show NumTaken l false (-acc) (l.drop (1 + j)) (decide (j = 0)) from num_taken_neg HC0.out (by rw [← HLD.out]; exact hk))
        have hab := HN.out.bd
        have HLL := hide (show (l.drop (1 + j)) = (bl s).drop p from by rw [HLS.out, List.drop_drop, HPJ.out]; first | done | rfl | (congr 1; have := HN1.out; omega))
        have HLN := hide (show (l.drop (1 + j)).length ≤ l.length ∧ (decide (j = 0) = false → (l.drop (1 + j)).length < l.length) from by
          have := HLE.out
          have hll : l1.length ≤ l.length := by rw [HLD.out]; first | exact Nat.le_refl _ | (rw [List.length_drop]; omega)
          rw [List.length_drop]
          refine ⟨by omega, fun h => ?_⟩
          have : ¬ j = 0 := by simpa using h
          omega)
        have hacn : IntKind.i64.wrap (-acc) = -acc := wrapI _ (by omega) (by omega)
        clear hk
        have c0 := HW3.out.cell 0
        have c1 := HW3.out.cell 1
        have c2 := HW3.out.cell 2
        have y1 := HW3.out.frozen 1
        have y2 := HW3.out.frozen 2
        have lg := HW3.out.lt
        have hj0 : ¬ j = 0 := by omega
        · have hj1 : ¬ ((p : Int) = (n1 : Int)) := by have := HPJ.out; omega
          have hj2 : ((p : Int) == (n1 : Int)) = false := beq_eq_false_iff_ne.2 hj1
          have hdj : decide (j = 0) = false := by simpa using hj0
          have HT2 := hide (show NumTaken l false (-acc) (l.drop (1 + j)) false from by have h := HT.out; rw [hdj] at h; exact h)
          go_wp2
          go_ret
          exact ⟨(-acc), (l.drop (1 + j)), rfl, ⟨by omega, by omega⟩, ⟨p, HW3.out, hs, by omega, (fun h => by cases h), HLL.out⟩, HG3.out⟩
      have hjI : (p : Int) < (n1 : Int) + 10 := by have := HPJ.out; omega
      have hac9 := HN.out.lt hj
      have HNS := hide (HN.out.step hj (by rw [HCC.out]; omega))
      rw [hc] at HNS
      go_upto_region 7 with fail
      clear c0 c1 c2 y1 y2 lg
      have HLK := hide (look1_any (show RdK v3 g s 0 (l1.drop j) true from ⟨p, HW3.out, hs, by omega, (fun _ => by omega), by rw [HL1.out, List.drop_drop, HPJ.out]⟩) (by omega))
      go_wp2_with fail
      refine HLK.out.mono ?_
      rintro e v4 ⟨rfl, q4, hv4⟩
      rw [hc]
      have HW4 := hide (show Row v4 g 75 [.string s, .int .i64 (p : Int), .bool true] from by rw [hv4]; exact HW3.out.drewN q4)
      have HG4 := hide (show w.grownBy v4 (some g) from by rw [hv4]; exact only_drewN HG3.out q4)
      clear hv4 HLK
      have hu := u8_sub' (c.toNat : Int) hlo hhi
      have k1 : IntKind.i64.wrap (acc * 10) = acc * 10 := wrapI _ (by omega) (by omega)
      have k2 : IntKind.i64.wrap (acc * 10 + ((c.toNat : Int) - 48)) = acc * 10 + ((c.toNat : Int) - 48) := wrapI _ (by omega) (by omega)
      have k3 : IntKind.i64.wrap ((c.toNat : Int) - 48) = (c.toNat : Int) - 48 := wrapI _ (by omega) (by omega)
      have k4 : IntKind.i64.wrap ((p : Int) + 1) = (p : Int) + 1 := wrapI _ (by omega) (by omega)
      have HW5 := hide (show Row (v4.setCell ⟨g, 1, none⟩ (.int .i64 ((p : Int) + 1))) g 75 [.string s, .int .i64 ((p + 1 : Nat) : Int), .bool true] from by rw [show ((p + 1 : Nat) : Int) = (p : Int) + 1 by omega]; exact HW4.out.set 1 _)
      have HG5 := hide (only_setCell (p := ⟨g, 1, none⟩) HG4.out (.inl rfl) (.int .i64 ((p : Int) + 1)))
      have c0 := HW4.out.cell 0
      have c1 := HW4.out.cell 1
      have c2 := HW4.out.cell 2
      have y1 := HW4.out.frozen 1
      have y2 := HW4.out.frozen 2
      have lg := HW4.out.lt
      clear hc
      go_wp2
      go_roundw
      case rel =>
        have hpj2 : p + 1 = n1 + (j + 1) := by have := HPJ.out; omega
        first | exact ⟨j + 1, p + 1, _, rfl, hpj2, HNS.out, HW5.out, HG5.out⟩ | exact ⟨_, _, _, _, _, _, _, _, _, _, _, _, _, _, _, _, _, _, _, _, _, _, _, _, _, _, _, _, _, _, _, _, _, ⟨j + 1, p + 1, acc * 10 + ((c.toNat : Int) - 48), by first | rfl | go_num | (congr 1; simp only [wrap64]; omega), hpj2, HNS.out, HW5.out, HG5.out⟩, rfl⟩
      case measure => rw [posMeas_eq HW5.out, HME.out]; have := HNS.out.2.1; have := HLEN.out; have := HPJ.out; omega
  · have hci : ¬ ((c.toNat : Int) = 45) := fun e => hneg (UInt8.toNat_inj.1 (show c.toNat = 45 from by omega))
    have HC0 := hide (show ¬ l.headD 0 = 45 from fun e => hneg (HCL.out.symm.trans e))
    have hcb : ((c.toNat : Int) == 45) = false := beq_eq_false_iff_ne.2 hci
    clear hneg
    go_upto_region 6 with fail
    obtain ⟨n1, hn1⟩ : ∃ n1, n1 = n0 := ⟨_, rfl⟩
    rw [← hn1] at HWz HLS HLE hn0 ⊢
    have HW1 := hide (show Row v0 g 75 [.string s, .int .i64 (n1 : Int), .bool true] from HWz.out)
    have HG1 := HGz
    obtain ⟨l1, hl1⟩ : ∃ l1, l = l1 := ⟨_, rfl⟩
    have HLD := hide hl1.symm
    have HL1 := hide (show l1 = (bl s).drop n1 from by rw [← hl1, HLS.out])
    have HLEN := hide (show n1 + l1.length = s.size from by rw [← hl1]; have := HLE.out; omega)
    have HN1 := hide (show n1 = n1 from rfl)
    clear c0 c1 y1 lg hl1 hn1 HWz HGz HCL
    go_loopw [5] (fun nv wr => ∃ (j p : Nat) (acc : Int), nv = .int .i64 acc ∧ p = n1 + j ∧ NumAt l1 j acc ∧ Row wr g 75 [.string s, .int .i64 (p : Int), .bool true] ∧ w.grownBy wr (some g)) (fun _ wr => posMeas wr g s.size)
    case atStart => exact ⟨0, n1, 0, rfl, rfl, NumAt.start _, HW1.out, HG1.out⟩
    case round =>
      clear HW1 HG1
      obtain ⟨j, p, acc, rfl, hp, hn, hrow, hgr⟩ := hrel
      have HPJ := hide hp
      have HN := hide hn
      have HW := hide hrow
      have HG := hide hgr
      have hj10 := hn.1
      have hjl := hn.2.1
      have hab := hn.bd
      have HME := hide (posMeas_eq hrow)
      have hn1s : p ≤ s.size := by have := HLEN.out; omega
      have hn1b : n1 ≤ 10000 := by have := HLEN.out; omega
      clear hn hrow hgr hp
      obtain ⟨c, hc⟩ : ∃ c, (l1.drop j).headD 0 = c := ⟨_, rfl⟩
      have HCC := hide hc
      have hc256 := c.toNat_lt
      have HLK := hide (look1_any (show RdK wr g s 0 (l1.drop j) true from ⟨p, HW.out, hs, by omega, (fun _ => by omega), by rw [HL1.out, List.drop_drop, HPJ.out]⟩) (by omega))
      go_wp2_with fail
      refine HLK.out.mono ?_
      rintro e v2 ⟨rfl, q2, hv2⟩
      rw [hc]
      have HW2 := hide (show Row v2 g 75 [.string s, .int .i64 (p : Int), .bool true] from by rw [hv2]; exact HW.out.drewN q2)
      have HG2 := hide (show w.grownBy v2 (some g) from by rw [hv2]; exact only_drewN HG.out q2)
      clear hv2 HLK
      by_cases hlo : 48 ≤ (c.toNat : Int)
      rotate_left
      · clear hc
        have hk := HN.out.stop (.inr (fun h => hlo (by rw [HCC.out] at h; omega)))
        have HT := hide (show NumTaken l false acc (l.drop j) (decide (j = 0)) from num_taken_pos HC0.out (by rw [← HLD.out]; exact hk))
        have hab := HN.out.bd
        have HLL := hide (show (l.drop j) = (bl s).drop p from by rw [HLS.out, List.drop_drop, HPJ.out]; first | done | rfl | (congr 1; have := HN1.out; omega))
        have HLN := hide (show (l.drop j).length ≤ l.length ∧ (decide (j = 0) = false → (l.drop j).length < l.length) from by
          have := HLE.out
          have hll : l1.length ≤ l.length := by rw [HLD.out]; first | exact Nat.le_refl _ | (rw [List.length_drop]; omega)
          rw [List.length_drop]
          refine ⟨by omega, fun h => ?_⟩
          have : ¬ j = 0 := by simpa using h
          omega)
        have hacn : IntKind.i64.wrap (-acc) = -acc := wrapI _ (by omega) (by omega)
        clear hk
        have c0 := HW2.out.cell 0
        have c1 := HW2.out.cell 1
        have c2 := HW2.out.cell 2
        have y1 := HW2.out.frozen 1
        have y2 := HW2.out.frozen 2
        have lg := HW2.out.lt
        by_cases hj0 : j = 0
        · subst hj0
          have hpn : p = n1 := by have := HPJ.out; omega
          have hpI : ((p : Int) == (n1 : Int)) = true := by rw [hpn]; simp
          have hpJ : (p : Int) = (n1 : Int) := by omega
          clear hpn
          go_wp2
          go_ret
          exact ⟨acc, (l.drop 0), rfl, ⟨by omega, by omega⟩, ⟨p, HW2.out.set 2 _, hs, by omega, (fun h => by cases h), HLL.out⟩, only_setCell (p := ⟨g, 2, none⟩) HG2.out (.inl rfl) _⟩
        · have hj1 : ¬ ((p : Int) = (n1 : Int)) := by have := HPJ.out; omega
          have hj2 : ((p : Int) == (n1 : Int)) = false := beq_eq_false_iff_ne.2 hj1
          have hdj : decide (j = 0) = false := by simpa using hj0
          have HT2 := hide (show NumTaken l false acc (l.drop j) false from by have h := HT.out; rw [hdj] at h; exact h)
          go_wp2
          go_ret
          exact ⟨acc, (l.drop j), rfl, ⟨by omega, by omega⟩, ⟨p, HW2.out, hs, by omega, (fun h => by cases h), HLL.out⟩, HG2.out⟩
      have HLK := hide (look1_any (show RdK v2 g s 0 (l1.drop j) true from ⟨p, HW2.out, hs, by omega, (fun _ => by omega), by rw [HL1.out, List.drop_drop, HPJ.out]⟩) (by omega))
      go_wp2_with fail
      refine HLK.out.mono ?_
      rintro e v3 ⟨rfl, q3, hv3⟩
      rw [hc]
      have HW3 := hide (show Row v3 g 75 [.string s, .int .i64 (p : Int), .bool true] from by rw [hv3]; exact HW2.out.drewN q3)
      have HG3 := hide (show w.grownBy v3 (some g) from by rw [hv3]; exact only_drewN HG2.out q3)
      clear hv3 HLK
      by_cases hhi : (c.toNat : Int) ≤ 57
      rotate_left
      · clear hc
        have hk := HN.out.stop (.inr (fun h => hhi (by rw [HCC.out] at h; omega)))
        have HT := hide (show NumTaken l false acc (l.drop j) (decide (j = 0)) from num_taken_pos HC0.out (by rw [← HLD.out]; exact hk))
        have hab := HN.out.bd
        have HLL := hide (show (l.drop j) = (bl s).drop p from by rw [HLS.out, List.drop_drop, HPJ.out]; first | done | rfl | (congr 1; have := HN1.out; omega))
        have HLN := hide (show (l.drop j).length ≤ l.length ∧ (decide (j = 0) = false → (l.drop j).length < l.length) from by
          have := HLE.out
          have hll : l1.length ≤ l.length := by rw [HLD.out]; first | exact Nat.le_refl _ | (rw [List.length_drop]; omega)
          rw [List.length_drop]
          refine ⟨by omega, fun h => ?_⟩
          have : ¬ j = 0 := by simpa using h
          omega)
        have hacn : IntKind.i64.wrap (-acc) = -acc := wrapI _ (by omega) (by omega)
        clear hk
        have c0 := HW3.out.cell 0
        have c1 := HW3.out.cell 1
        have c2 := HW3.out.cell 2
        have y1 := HW3.out.frozen 1
        have y2 := HW3.out.frozen 2
        have lg := HW3.out.lt
        by_cases hj0 : j = 0
        · subst hj0
          have hpn : p = n1 := by have := HPJ.out; omega
          have hpI : ((p : Int) == (n1 : Int)) = true := by rw [hpn]; simp
          have hpJ : (p : Int) = (n1 : Int) := by omega
          clear hpn
          go_wp2
          go_ret
          exact ⟨acc, (l.drop 0), rfl, ⟨by omega, by omega⟩, ⟨p, HW3.out.set 2 _, hs, by omega, (fun h => by cases h), HLL.out⟩, only_setCell (p := ⟨g, 2, none⟩) HG3.out (.inl rfl) _⟩
        · have hj1 : ¬ ((p : Int) = (n1 : Int)) := by have := HPJ.out; omega
          have hj2 : ((p : Int) == (n1 : Int)) = false := beq_eq_false_iff_ne.2 hj1
          have hdj : decide (j = 0) = false := by simpa using hj0
          have HT2 := hide (show NumTaken l false acc (l.drop j) false from by have h := HT.out; rw [hdj] at h; exact h)
          go_wp2
          go_ret
          exact ⟨acc, (l.drop j), rfl, ⟨by omega, by omega⟩, ⟨p, HW3.out, hs, by omega, (fun h => by cases h), HLL.out⟩, HG3.out⟩
      have c0 := HW3.out.cell 0
      have c1 := HW3.out.cell 1
      have c2 := HW3.out.cell 2
      have y1 := HW3.out.frozen 1
      have y2 := HW3.out.frozen 2
      have lg := HW3.out.lt
      by_cases hj : j < 10
      rotate_left
      · have hjI : ¬ ((p : Int) < (n1 : Int) + 10) := by have := HPJ.out; omega
        clear c0 c1 c2 y1 y2 lg
        clear hc
        have hk := HN.out.stop (.inl (by omega))
        have HT := hide (show NumTaken l false acc (l.drop j) (decide (j = 0)) from num_taken_pos HC0.out (by rw [← HLD.out]; exact hk))
        have hab := HN.out.bd
        have HLL := hide (show (l.drop j) = (bl s).drop p from by rw [HLS.out, List.drop_drop, HPJ.out]; first | done | rfl | (congr 1; have := HN1.out; omega))
        have HLN := hide (show (l.drop j).length ≤ l.length ∧ (decide (j = 0) = false → (l.drop j).length < l.length) from by
          have := HLE.out
          have hll : l1.length ≤ l.length := by rw [HLD.out]; first | exact Nat.le_refl _ | (rw [List.length_drop]; omega)
          rw [List.length_drop]
          refine ⟨by omega, fun h => ?_⟩
          have : ¬ j = 0 := by simpa using h
          omega)
        have hacn : IntKind.i64.wrap (-acc) = -acc := wrapI _ (by omega) (by omega)
        clear hk
        have c0 := HW3.out.cell 0
        have c1 := HW3.out.cell 1
        have c2 := HW3.out.cell 2
        have y1 := HW3.out.frozen 1
        have y2 := HW3.out.frozen 2
        have lg := HW3.out.lt
        have hj0 : ¬ j = 0 := by omega
        · have hj1 : ¬ ((p : Int) = (n1 : Int)) := by have := HPJ.out; omega
          have hj2 : ((p : Int) == (n1 : Int)) = false := beq_eq_false_iff_ne.2 hj1
          have hdj : decide (j = 0) = false := by simpa using hj0
          have HT2 := hide (show NumTaken l false acc (l.drop j) false from by have h := HT.out; rw [hdj] at h; exact h)
          go_wp2
          go_ret
          exact ⟨acc, (l.drop j), rfl, ⟨by omega, by omega⟩, ⟨p, HW3.out, hs, by omega, (fun h => by cases h), HLL.out⟩, HG3.out⟩
      have hjI : (p : Int) < (n1 : Int) + 10 := by have := HPJ.out; omega
      have hac9 := HN.out.lt hj
      have HNS := hide (HN.out.step hj (by rw [HCC.out]; omega))
      rw [hc] at HNS
      go_upto_region 7 with fail
      clear c0 c1 c2 y1 y2 lg
      have HLK := hide (look1_any (show RdK v3 g s 0 (l1.drop j) true from ⟨p, HW3.out, hs, by omega, (fun _ => by omega), by rw [HL1.out, List.drop_drop, HPJ.out]⟩) (by omega))
      go_wp2_with fail
      refine HLK.out.mono ?_
      rintro e v4 ⟨rfl, q4, hv4⟩
      rw [hc]
      have HW4 := hide (show Row v4 g 75 [.string s, .int .i64 (p : Int), .bool true] from by rw [hv4]; exact HW3.out.drewN q4)
      have HG4 := hide (show w.grownBy v4 (some g) from by rw [hv4]; exact only_drewN HG3.out q4)
      clear hv4 HLK
      have hu := u8_sub' (c.toNat : Int) hlo hhi
      have k1 : IntKind.i64.wrap (acc * 10) = acc * 10 := wrapI _ (by omega) (by omega)
      have k2 : IntKind.i64.wrap (acc * 10 + ((c.toNat : Int) - 48)) = acc * 10 + ((c.toNat : Int) - 48) := wrapI _ (by omega) (by omega)
      have k3 : IntKind.i64.wrap ((c.toNat : Int) - 48) = (c.toNat : Int) - 48 := wrapI _ (by omega) (by omega)
      have k4 : IntKind.i64.wrap ((p : Int) + 1) = (p : Int) + 1 := wrapI _ (by omega) (by omega)
      have HW5 := hide (show Row (v4.setCell ⟨g, 1, none⟩ (.int .i64 ((p : Int) + 1))) g 75 [.string s, .int .i64 ((p + 1 : Nat) : Int), .bool true] from by rw [show ((p + 1 : Nat) : Int) = (p : Int) + 1 by omega]; exact HW4.out.set 1 _)
      have HG5 := hide (only_setCell (p := ⟨g, 1, none⟩) HG4.out (.inl rfl) (.int .i64 ((p : Int) + 1)))
      have c0 := HW4.out.cell 0
      have c1 := HW4.out.cell 1
      have c2 := HW4.out.cell 2
      have y1 := HW4.out.frozen 1
      have y2 := HW4.out.frozen 2
      have lg := HW4.out.lt
      clear hc
      go_wp2
      go_roundw
      case rel =>
        have hpj2 : p + 1 = n1 + (j + 1) := by have := HPJ.out; omega
        first | exact ⟨j + 1, p + 1, _, rfl, hpj2, HNS.out, HW5.out, HG5.out⟩ | exact ⟨_, _, _, _, _, _, _, _, _, _, _, _, _, _, _, _, _, _, _, _, _, _, _, _, _, _, _, _, _, _, _, _, _, ⟨j + 1, p + 1, acc * 10 + ((c.toNat : Int) - 48), by first | rfl | go_num | (congr 1; simp only [wrap64]; omega), hpj2, HNS.out, HW5.out, HG5.out⟩, rfl⟩
      case measure => rw [posMeas_eq HW5.out, HME.out]; have := HNS.out.2.1; have := HLEN.out; have := HPJ.out; omega
end Go.Proofs.YtnaecdoeldoipaaGreatDoor
set_option linter.unusedVariables false
set_option linter.unusedSimpArgs false
namespace Go.Proofs.YtnaecdoeldoipaaGreatDoor
open Go.ChangeShapes Go.WideShapes Go.ChangeAt Go.RowKit

theorem Calls.some_end {P : Program} {f : FuncId} {args : Array Value} {w : World} {R : Ending → World → Prop} (h : Calls P f args w R) : ∃ e w', R e w' := by
  obtain ⟨e, w', _, hr, _⟩ := h []
  exact ⟨e, w', hr⟩
/-- a good tree is known by its text: the reader's contract says so, in any world -/
theorem Tree.wr_inj (w : World) {a b : Tree} (ha : a.ok) (hb : b.ok) (h : a.wr = b.wr) : a = b := by
  have hs := tok_size ha
  have hR : RdK (w.alloc (.cells [.string a.wr, .int .i64 0, .bool false].toArray 75)) w.heap.size a.wr 0 (bl a.wr) false :=
    ⟨0, Row.new w _ _, by omega, by omega, fun _ => by omega, rfl⟩
  obtain ⟨e, w', k, us, fq, l', b', _, _, _, _, _, _, ht, _⟩ := Calls.some_end (treeRdS_any 6 a.wr (bl a.wr) false w.heap.size 1 _ (by omega) (by omega) hR)
  have h1 := ht a [] ha.1 Ender.nil rfl (by rw [List.append_nil])
  have h2 := ht b [] hb.1 Ender.nil rfl (by rw [h, List.append_nil])
  exact h1.1.symm.trans h2.1
theorem ib_at : ∀ (a r : List UInt8) (c : UInt8), (∀ x ∈ a, x ≠ c) → Lib.indexByte (a ++ c :: r) c = a.length
  | [], r, c, _ => by simp [Lib.indexByte]
  | x :: a, r, c, h => by
    have ih := ib_at a r c (fun y hy => h y (by simp [hy]))
    have hx : (x == c) = false := by simpa using h x (by simp)
    simp only [List.cons_append, Lib.indexByte, hx, ih]
    have hn : ((a.length : Int) == -1) = false := beq_eq_false_iff_ne.2 (by omega)
    simp [hn]
theorem cut_at (a r : List UInt8) (c : UInt8) (h : ∀ x ∈ a, x ≠ c) : Lib.cut (a ++ c :: r) [c] = (a, r, true) := by
  unfold Lib.cut
  rw [Lib.index_one, ib_at a r c h, if_pos (by omega)]
  simp
theorem dec_chars {z : Int} {x : UInt8} (h : x ∈ bl (dec z)) : x = 45 ∨ (48 ≤ x.toNat ∧ x.toNat ≤ 57) := by
  have e : bl (dec z) = Lib.itoa z := by unfold bl; exact dec_bytes z
  rw [e] at h
  unfold Lib.itoa at h
  split at h
  · rcases List.mem_cons.1 h with rfl | h
    · exact .inl rfl
    · exact .inr (digits_mem _ _ (Nat.le_refl _) x h)
  · exact .inr (digits_mem _ _ (Nat.le_refl _) x h)
theorem Tree.form_head {k : Tree} (h : k.sort = 5) : ∃ r, bl k.wr = 123 :: r := by
  rw [Tree.wr_eq, h]
  simp only [show ¬ ((5 : Int) = 1) by decide, show ¬ ((5 : Int) = 2) by decide, show ¬ ((5 : Int) = 3) by decide, show ¬ ((5 : Int) = 4) by decide, if_false, if_true, bl_app]
  exact ⟨_, rfl⟩
theorem Event.wr_bl (x : Event) : bl x.wr = bl x.type_ ++ 64 :: (bl (dec x.version) ++ bl x.body.wr) := by
  unfold Event.wr
  rw [bl_app, bl_app, bl_app, List.append_assoc, List.append_assoc]
  rfl
theorem Event.type_no {x : Event} (h : x.ok) : ∀ c ∈ bl x.type_, c ≠ 64 := fun c hc => by
  have := nameOk_chars h.1
  rw [List.all_eq_true] at this
  exact nameCh_not (this c hc) (by decide)
/-- the text cut at the first @ -/
theorem Event.cut {x : Event} (h : x.ok) : Lib.cut (bl x.wr) [64] = (bl x.type_, bl (dec x.version) ++ bl x.body.wr, true) := by
  rw [Event.wr_bl, cut_at _ _ _ (Event.type_no h)]
theorem Event.brace {x : Event} (h : x.ok) : Lib.indexByte (bl (dec x.version) ++ bl x.body.wr) 123 = (bl (dec x.version)).length := by
  obtain ⟨r, e⟩ := Tree.form_head h.2.2.1
  rw [e]
  refine ib_at _ _ _ (fun c hc hn => ?_)
  subst hn
  rcases dec_chars hc with h | h
  · exact absurd h (by decide)
  · exact absurd h (by decide)
theorem Event.wr_inj (w : World) {a b : Event} (ha : a.ok) (hb : b.ok) (h : a.wr = b.wr) : a = b := by
  have c1 := Event.cut ha
  have c2 := Event.cut hb
  rw [← h, c1] at c2
  simp only [Prod.mk.injEq, and_true] at c2
  obtain ⟨e1, e2⟩ := c2
  have b1 := Event.brace ha
  have b2 := Event.brace hb
  rw [← e2, b1] at b2
  have hl : (bl (dec a.version)).length = (bl (dec b.version)).length := by omega
  obtain ⟨e3, e4⟩ := List.append_inj e2 hl
  have e5 := numOf_dec a.version (by have := ha.2.1.1; omega) (by have := ha.2.1.2; omega)
  have e6 := numOf_dec b.version (by have := hb.2.1.1; omega) (by have := hb.2.1.2; omega)
  rw [bl_inj e3, e6] at e5
  injection e5 with e5
  have e7 := Tree.wr_inj w ha.2.2.2 hb.2.2.2 (bl_inj e4)
  obtain ⟨t, v, k⟩ := a
  obtain ⟨t', v', k'⟩ := b
  simp only at e1 e5 e7
  obtain rfl := bl_inj e1
  rw [e5, e7]
/-- the event whose text it is -/
noncomputable def readE (s : ByteArray) : Option Event := @dite _ (∃ k : Event, k.ok ∧ k.wr = s) (Classical.propDecidable _) (fun h => some h.choose) (fun _ => none)
theorem readE_some {s : ByteArray} {k : Event} (h : readE s = some k) : k.ok ∧ k.wr = s := by
  unfold readE at h
  split at h
  · next hx =>
    injection h with h
    rw [← h]
    exact hx.choose_spec
  · cases h
theorem readE_none {s : ByteArray} (h : readE s = none) (k : Event) (hk : k.ok) : k.wr ≠ s := by
  unfold readE at h
  split at h
  · cases h
  · next hx => exact fun e => hx ⟨k, hk, e⟩
theorem readE_yes (w : World) {s : ByteArray} {k : Event} (hk : k.ok) (e : k.wr = s) : readE s = some k := by
  cases h : readE s with
  | none => exact absurd e (readE_none h k hk)
  | some k2 =>
    obtain ⟨h1, h2⟩ := readE_some h
    rw [Event.wr_inj w h1 hk (h2.trans e.symm)]
theorem readE_no {s : ByteArray} (h : ∀ k : Event, k.ok → k.wr = s → False) : readE s = none := by
  cases h2 : readE s with
  | none => rfl
  | some k2 => exact (h k2 (readE_some h2).1 (readE_some h2).2).elim
theorem eok_size {k : Event} (h : k.ok) : k.wr.size ≤ 9640 := by
  have h1 := tok_size h.2.2.2
  have h2 := h.1.2.1
  have h3 := dec_size k.version (by have := h.2.1.1; omega) (by have := h.2.1.2; omega)
  have e := congrArg List.length (Event.wr_bl k)
  simp only [List.length_append, List.length_cons, bl_len] at e
  omega
theorem readE_long {s : ByteArray} (h : 10000 < s.size) : readE s = none := readE_no fun k hk e => by
  have := eok_size hk
  rw [e] at this
  omega
/-- how the reference reads it -/
theorem ev_taken {s x : ByteArray} {l1 l2 l3 l4 : List UInt8} {ok b3 b4 : Bool} {v : Int} {k : Tree} (h1 : Named64 (bl s) x l1) (h2 : Eaten [64] l1 ok l2) (h3 : ok = true → NumTakenD l2 false v l3 b3) (h4 : TakesT 1 l3 b3 k l4 b4) {e : Event} (he : e.ok) (hs : e.wr = s) :
    e = ⟨x, v, k⟩ ∧ b4 = false ∧ l4 = [] := by
  have e0 := Event.wr_bl e
  rw [hs] at e0
  obtain ⟨rfl, rfl⟩ := h1.2 _ _ he.1 e0
  obtain ⟨rfl, rfl⟩ := h2.yes (r := bl (dec e.version) ++ bl e.body.wr) rfl
  obtain ⟨r, hr⟩ := Tree.form_head he.2.2.1
  obtain ⟨rfl, rfl, rfl⟩ := h3 rfl e.version (bl e.body.wr) (by have := he.2.1; omega) (fun c q e => by rw [hr] at e; injection e with e _; subst e; decide) rfl rfl
  obtain ⟨rfl, rfl, rfl⟩ := h4 e.body [] he.2.2.2.1 Ender.nil rfl (by rw [List.append_nil])
  exact ⟨rfl, rfl, rfl⟩
def Event.zero_ : Event := ⟨.empty, 0, Tree.zero_⟩
noncomputable def eventRead (s : ByteArray) : Event := (readE s).getD Event.zero_
noncomputable def eventReadB (s : ByteArray) : Bool := (readE s).isSome
def EventReadRet (s : ByteArray) (w : World) (e : Ending) (w' : World) : Prop :=
  ∃ us fq, e = .returned (.tuple #[.agg us.toArray, .bool (eventReadB s)]) ∧ OwC w' (eventRead s).cells us fq ∧ New w' fq w.heap.size ∧ Below w.heap.size w w'
theorem err_none {s : ByteArray} {w W : World} (h : readE s = none) (hg : Below w.heap.size w W) : EventReadRet s w (.returned (.tuple #[.agg [.string ⟨#[]⟩, .int .i64 0, .int .i64 0, .int .i64 0, .string ⟨#[]⟩, .slice none 0 0, .slice none 0 0].toArray, .bool false])) W := by
  unfold EventReadRet eventRead eventReadB
  rw [h]
  refine ⟨_, [], rfl, ?_, New.nil _ _, hg⟩
  exact OwC.mEvent (x := Event.zero_) (f1 := []) (f2 := []) (by decide) (by decide) (by decide) (by decide) (by decide) (Ow.nil_ W 1 strC) (Ow.nil_ W 5 Tree.cells)
theorem err_some {s : ByteArray} {e : Event} {w W : World} {us : List Value} {fq : List Nat} (h : readE s = some e) (ho : OwC W e.cells us fq) (hn : New W fq w.heap.size) (hg : Below w.heap.size w W) : EventReadRet s w (.returned (.tuple #[.agg us.toArray, .bool true])) W := by
  unfold EventReadRet eventRead eventReadB
  rw [h]
  exact ⟨us, fq, rfl, ho, hn, hg⟩
end Go.Proofs.YtnaecdoeldoipaaGreatDoor
set_option linter.unusedVariables false
set_option linter.unusedSimpArgs false
namespace Go.Proofs.YtnaecdoeldoipaaGreatDoor
open Go.ChangeShapes Go.WideShapes Go.ChangeAt Go.RowKit

def NumOutE (g : Nat) (s : ByteArray) (l : List UInt8) (ok : Bool) (w : World) (e : Ending) (w' : World) : Prop :=
  ∃ (n : Int) (l' : List UInt8) (bad' : Bool), e = .returned (.int .i64 n) ∧ (-9999999999 ≤ n ∧ n ≤ 9999999999) ∧ RdK w' g s 0 l' bad' ∧ (ok = true → NumTakenD l false n l' bad') ∧ (bad' = false → ok = true) ∧ w.grownBy w' (some g)
theorem numE_any {s : ByteArray} {l : List UInt8} {g : Nat} {ok : Bool} {w : World} (h : RdK w g s 0 l (!ok)) :
    Calls Tryz.prog 66 #[.pointer (some ⟨g, 0, none⟩)] w (NumOutE g s l ok w) := by
  cases ok with
  | false =>
    refine (num1b_any h).mono ?_
    rintro e w' ⟨n, l', rfl, hn, hr, hg⟩
    exact ⟨n, l', true, rfl, hn, hr, (fun h => by cases h), (fun h => by cases h), hg⟩
  | true =>
    refine (num1d_any h).mono ?_
    rintro e w' ⟨n, l', b', rfl, hn, hr, ht, _, hg⟩
    exact ⟨n, l', b', rfl, hn, hr, (fun _ => ht), (fun _ => rfl), hg⟩
theorem Event.write_eq {e : Event} {s : ByteArray} (h : e.write = s) (hs : s ≠ .empty) : e.ok ∧ e.wr = s := by
  unfold Event.write at h
  by_cases hk : e.ok
  · rw [if_pos (tb_true hk)] at h
    exact ⟨hk, h⟩
  · rw [if_neg (by rw [tb_false hk]; simp)] at h
    exact absurd h.symm hs
theorem Event.write_ok {e : Event} (h : e.ok) : e.write = e.wr := by
  unfold Event.write
  rw [if_pos (tb_true h)]
theorem Event.wr_ne {e : Event} : e.wr ≠ .empty := fun h => by
  have e0 := Event.wr_bl e
  rw [h] at e0
  have := congrArg List.length e0
  simp only [List.length_append, List.length_cons, bl_len, ByteArray.size_empty] at this
  omega
set_option maxRecDepth 100000 in
set_option maxHeartbeats 4000000 in
theorem specEventRead_any (s : ByteArray) (w : World) (hs : s.size ≤ maxLen) :
    Calls Tryz.prog 24 #[.string s] w (EventReadRet s w) := by
  unfold maxLen at hs
  go_enter Tryz.func24, Tryz.ntmps24
  go_upto_region 1 with fail
  generalize hw1 : w.alloc _ = w1
  have hb1 : Below w.heap.size w w1 := by rw [← hw1]; exact (Below.refl _ _).alloc (Nat.le_refl _) _
  have HZ := hide (show Row w1 w.heap.size 46 [.string ⟨#[]⟩, .int .i64 0, .int .i64 0, .int .i64 0, .string ⟨#[]⟩, .slice none 0 0, .slice none 0 0] from by rw [← hw1]; exact Row.new w _ _)
  have hz1 := HZ.out.lt
  have HB1 := hide hb1
  clear hw1 hb1
  by_cases hlen : (10000 : Int) < (s.size : Int)
  · skip
    have z0 := HZ.out.cell 0
    have y0 := HZ.out.frozen 0
    have z1 := HZ.out.cell 1
    have y1 := HZ.out.frozen 1
    have z2 := HZ.out.cell 2
    have y2 := HZ.out.frozen 2
    have z3 := HZ.out.cell 3
    have y3 := HZ.out.frozen 3
    have z4 := HZ.out.cell 4
    have y4 := HZ.out.frozen 4
    have z5 := HZ.out.cell 5
    have y5 := HZ.out.frozen 5
    have z6 := HZ.out.cell 6
    have y6 := HZ.out.frozen 6
    have HNO := hide (show readE s = none from readE_long (by omega))
    go_wp2
    refine bodyPost_ret (ret_row_tmp rfl _ _ w.heap.size 46 [.string ⟨#[]⟩, .int .i64 0, .int .i64 0, .int .i64 0, .string ⟨#[]⟩, .slice none 0 0, .slice none 0 0] (HZ.out.setAll [.string ⟨#[]⟩, .int .i64 0, .int .i64 0, .int .i64 0, .string ⟨#[]⟩, .slice none 0 0, .slice none 0 0] rfl) _ _ rfl rfl Tryz.underlying46 rfl (by kernel_rfl)) rfl ?_
    exact err_none HNO.out (HB1.out.trans (below_of_grown (setN_grown [.string ⟨#[]⟩, .int .i64 0, .int .i64 0, .int .i64 0, .string ⟨#[]⟩, .slice none 0 0, .slice none 0 0] 0 (grown_refl _ (some w.heap.size))) (Nat.le_refl _) HB1.out.size))
  go_upto_region 4 with fail
  generalize hw2 : w1.alloc _ = w2
  have hb2 : Below w1.heap.size w1 w2 := by rw [← hw2]; exact (Below.refl _ _).alloc (Nat.le_refl _) _
  have HR := hide (show RdK w2 w1.heap.size s 0 (bl s) false from ⟨0, by rw [← hw2]; exact Row.new w1 _ _, by omega, by omega, fun _ => by omega, rfl⟩)
  have HZ2 := hide (HZ.out.below hb2 hz1)
  have HB2 := hide (HB1.out.trans (hb2.mono HB1.out.size))
  have hr2 := HR.out.lt
  have hgz : w.heap.size < w1.heap.size := hz1
  obtain ⟨g, hg⟩ : ∃ g, w1.heap.size = g := ⟨_, rfl⟩
  rw [hg] at HR hr2 hgz ⊢
  have HC := hide (name64_any HR.out (by omega) HR.out.hat)
  clear hw2 hb2 hg HZ HB1 hz1
  go_wp2_with fail
  refine HC.out.mono ?_
  rintro e w3 ⟨x, l1, rfl, hxs, hr3, hnm, hg3⟩
  have HNM := hide hnm
  have HR3 := hide hr3
  have HZ3 := hide (HZ2.out.grown hg3 (fun e => by injection e with e; omega))
  have HB3 := hide (HB2.out.trans (below_of_grown hg3 (by omega) HB2.out.size))
  have hs23 := hg3.size
  clear hnm hr3 hg3 HC HR HZ2 HB2
  go_upto_region 5 with fail
  generalize hw4 : w3.alloc _ = w4
  have hb4 : Below w3.heap.size w3 w4 := by rw [← hw4]; exact (Below.refl _ _).alloc (Nat.le_refl _) _
  have HX4 := hide (show Row w4 w3.heap.size 46 [.string x, .int .i64 0, .int .i64 0, .int .i64 0, .string ⟨#[]⟩, .slice none 0 0, .slice none 0 0] from by rw [← hw4]; exact Row.new w3 _ _)
  have HR4 := hide (HR3.out.below hb4)
  have HZ4 := hide (HZ3.out.below hb4 HZ3.out.lt)
  have HB4 := hide (HB3.out.trans (hb4.mono HB3.out.size))
  have hgb : g < w3.heap.size := by omega
  obtain ⟨b, hb⟩ : ∃ b, w3.heap.size = b := ⟨_, rfl⟩
  rw [hb] at HX4 hgb ⊢
  have HC := hide (eat1_any HR4.out (by omega) ⟨#[64]⟩ (by decide) (by decide))
  clear hw4 hb4 hb HR3 HZ3 HB3 hs23
  go_wp2_with fail
  refine HC.out.mono ?_
  rintro e w5 ⟨ok, l2, rfl, hr5, hea, hg5⟩
  have HEA := hide (show Eaten [64] l1 ok l2 from hea)
  have HR5 := hide (show RdK w5 g s 0 l2 (!ok) from by simpa using hr5)
  have HX5 := hide (HX4.out.grown hg5 (fun e => by injection e with e; omega))
  have HZ5 := hide (HZ4.out.grown hg5 (fun e => by injection e with e; omega))
  have HB5 := hide (HB4.out.trans (below_of_grown hg5 (by omega) HB4.out.size))
  have HC2 := hide (numE_any HR5.out)
  clear hr5 hea hg5 HC HR4 HX4 HZ4 HB4
  go_wp2_with fail
  refine HC2.out.mono ?_
  rintro e w6 ⟨v, l3, b3, rfl, hv, hr6, hnt, hbo, hg6⟩
  have HNT := hide hnt
  have HBO := hide hbo
  have HR6 := hide hr6
  have HX6 := hide (HX5.out.grown hg6 (fun e => by injection e with e; omega))
  have HZ6 := hide (HZ5.out.grown hg6 (fun e => by injection e with e; omega))
  have HB6 := hide (HB5.out.trans (below_of_grown hg6 (by omega) HB5.out.size))
  clear hr6 hnt hbo hg6 HC2 HR5 HX5 HZ5 HB5
  have x1 := HX6.out.cell 1
  have x1f := HX6.out.frozen 1
  have xl := HX6.out.lt
  go_upto_region 7 with fail
  generalize hw7 : World.setCell _ _ _ = w7
  have hb7 : Below b w6 w7 := by rw [← hw7]; exact (Below.refl _ _).setCell (p := ⟨b, 1, none⟩) (Nat.le_refl _) _
  have HX7 := hide (show Row w7 b 46 [.string x, .int .i64 v, .int .i64 0, .int .i64 0, .string ⟨#[]⟩, .slice none 0 0, .slice none 0 0] from by rw [← hw7]; exact HX6.out.set 1 _)
  have HR7 := hide (HR6.out.low hb7 hgb)
  have HZ7 := hide (HZ6.out.below hb7 (by omega))
  have HB7 := hide (HB6.out.trans (hb7.mono (by omega)))
  have HK := hide (treeRdS_any 6 s l3 b3 g 1 w7 (by omega) (by omega) HR7.out)
  clear hw7 hb7 x1 x1f xl HX6 HR6 HZ6 HB6
  go_wp2_with fail
  refine HK.out.mono ?_
  rintro e w8 ⟨k, us, fq, l4, b4, rfl, ho8, hn8, hr8, hg8, hp8, ht8, hb34⟩
  have HT8 := hide ht8
  have HBB := hide hb34
  have hl3s : l3.length ≤ 10000 := HR7.out.len
  have hkb : k.bulk ≤ 50000 := by have := hp8.2.1; omega
  obtain ⟨B1, d1, B2, d2, f1, f2, rfl, k0, k1, k2, k3, k4, efq⟩ := ho8.oTree
  have hb7s : b < w7.heap.size := HX7.out.lt
  have HO8 := hide ho8
  have HN8 := hide (hn8.mono (show b + 1 ≤ w7.heap.size from hb7s))
  have HX8 := hide (HX7.out.grown hg8 (fun e => by injection e with e; omega))
  have HZ8 := hide (HZ7.out.grown hg8 (fun e => by injection e with e; omega))
  have HB8 := hide (HB7.out.trans (below_of_grown hg8 (by omega) HB7.out.size))
  have HR8 := hide hr8
  have HLT := hide (show x.size ≤ maxLen from by unfold maxLen; omega)
  clear ho8 hn8 hr8 hg8 hp8 ht8 hb34 HK HR7 HX7 HZ7 HB7
  have x0 := HX8.out.cell 0
  have p0 := HX8.out.frozen 0
  have x1 := HX8.out.cell 1
  have p1 := HX8.out.frozen 1
  have x2 := HX8.out.cell 2
  have p2 := HX8.out.frozen 2
  have x3 := HX8.out.cell 3
  have p3 := HX8.out.frozen 3
  have x4 := HX8.out.cell 4
  have p4 := HX8.out.frozen 4
  have x5 := HX8.out.cell 5
  have p5 := HX8.out.frozen 5
  have x6 := HX8.out.cell 6
  have p6 := HX8.out.frozen 6
  have xl := HX8.out.lt
  go_upto_region 8 with fail
  generalize hw9 : World.setCell (World.setCell (World.setCell (World.setCell (World.setCell _ _ _) _ _) _ _) _ _) _ _ = w9
  have hput : putN w8 b 2 [.int .i64 k.sort, .int .i64 k.num, .string k.text, .slice B1 k.names.length d1, .slice B2 k.kids.length d2] = w9 := hw9
  have hgr9 : w8.grownBy w9 (some b) := by rw [← hput]; exact setN_grown _ _ (grown_refl _ _)
  have hb9 : Below b w8 w9 := below_of_grown hgr9 (Nat.le_refl _) (Nat.le_of_lt xl)
  have HX9 := hide (show Row w9 b 46 [.string x, .int .i64 v, .int .i64 k.sort, .int .i64 k.num, .string k.text, .slice B1 k.names.length d1, .slice B2 k.kids.length d2] from by
    rw [← hput]
    exact Row.setN [.int .i64 k.sort, .int .i64 k.num, .string k.text, .slice B1 k.names.length d1, .slice B2 k.kids.length d2] [.string x, .int .i64 v] [.int .i64 0, .int .i64 0, .string ⟨#[]⟩, .slice none 0 0, .slice none 0 0] rfl HX8.out)
  have hnob : b ∉ fq := HN8.out.out (Nat.lt_succ_self _)
  have HO9 := hide (HO8.out.grown hgr9 HN8.out.lt hnob)
  have HN9 := hide (HN8.out.grown hgr9 (fun q e => by injection e with e; subst e; exact hnob))
  have HZ9 := hide (HZ8.out.below hb9 (by omega))
  have HB9 := hide (HB8.out.trans (hb9.mono (by omega)))
  have HR9 := hide (HR8.out.low hb9 hgb)
  have HE := hide (show OwC w9 (Event.mk x v k).cells [.string x, .int .i64 v, .int .i64 k.sort, .int .i64 k.num, .string k.text, .slice B1 k.names.length d1, .slice B2 k.kids.length d2] fq from by
    obtain ⟨C1, e1, C2, e2, q1, q2, he, _, _, _, k3', k4', rfl⟩ := HO9.out.oTree
    simp only [List.cons.injEq, Value.slice.injEq, and_true, true_and] at he
    obtain ⟨⟨rfl, rfl⟩, rfl, rfl⟩ := he
    exact OwC.mEvent (x := Event.mk x v k) HLT.out (show (Lit.int .i64 v).wf = true from wfiR (by omega) (by omega)) k0 k1 k2 k3' k4')
  have hxz : x.size ≤ 10000 := hxs
  clear x0 x1 x2 x3 x4 x5 x6 p0 p1 p2 p3 p4 p5 p6 xl hw9 hput hgr9 hb9 hnob HX8 HZ8 HB8 HR8 HO8 HN8 HO9 k0 k1 k2 k3 k4 efq
  have HPL := hide (fun (e : Event) (he : e.ok) (hs : e.wr = s) => ev_taken HNM.out HEA.out HNT.out HT8.out he hs)
  obtain ⟨n, hrow, hsz, hn6, hnb, hl4⟩ := HR9.out
  have HRow := hide hrow
  have HL4 := hide hl4
  have HNB := hide hnb
  clear hrow hl4 hnb
  have r1 := HRow.out.cell 1
  have r2 := HRow.out.cell 2
  have rl := HRow.out.lt
  have q0 := HX9.out.cell 0
  have q1 := HX9.out.cell 1
  have q2 := HX9.out.cell 2
  have q3 := HX9.out.cell 3
  have q4 := HX9.out.cell 4
  have q5 := HX9.out.cell 5
  have q6 := HX9.out.cell 6
  have ql := HX9.out.lt
  have z0 := HZ9.out.cell 0
  have y0 := HZ9.out.frozen 0
  have z1 := HZ9.out.cell 1
  have y1 := HZ9.out.frozen 1
  have z2 := HZ9.out.cell 2
  have y2 := HZ9.out.frozen 2
  have z3 := HZ9.out.cell 3
  have y3 := HZ9.out.frozen 3
  have z4 := HZ9.out.cell 4
  have y4 := HZ9.out.frozen 4
  have z5 := HZ9.out.cell 5
  have y5 := HZ9.out.frozen 5
  have z6 := HZ9.out.cell 6
  have y6 := HZ9.out.frozen 6
  have lz := HZ9.out.lt
  by_cases hbad : b4 = true
  · subst hbad
    have HNO := hide (show readE s = none from readE_no (fun e h1 h2 => by have := (HPL.out e h1 h2).2.1; cases this))
    go_wp2
    refine bodyPost_ret (ret_row_tmp rfl _ _ w.heap.size 46 [.string ⟨#[]⟩, .int .i64 0, .int .i64 0, .int .i64 0, .string ⟨#[]⟩, .slice none 0 0, .slice none 0 0] (HZ9.out.setAll [.string ⟨#[]⟩, .int .i64 0, .int .i64 0, .int .i64 0, .string ⟨#[]⟩, .slice none 0 0, .slice none 0 0] rfl) _ _ rfl rfl Tryz.underlying46 rfl (by kernel_rfl)) rfl ?_
    exact err_none HNO.out (HB9.out.trans (below_of_grown (setN_grown [.string ⟨#[]⟩, .int .i64 0, .int .i64 0, .int .i64 0, .string ⟨#[]⟩, .slice none 0 0, .slice none 0 0] 0 (grown_refl _ (some w.heap.size))) (Nat.le_refl _) HB9.out.size))
  obtain rfl : b4 = false := by simpa using hbad
  have hns := HNB.out rfl
  clear hbad
  by_cases hend : n = s.size
  rotate_left
  · have hni : ¬ ((n : Int) = (s.size : Int)) := by omega
    have HNO := hide (show readE s = none from readE_no (fun e h1 h2 => by
      have h3 := (HPL.out e h1 h2).2.2
      have h4 := congrArg List.length (HL4.out.symm.trans h3)
      rw [List.length_drop, bl_len] at h4
      simp at h4
      omega))
    go_wp2
    refine bodyPost_ret (ret_row_tmp rfl _ _ w.heap.size 46 [.string ⟨#[]⟩, .int .i64 0, .int .i64 0, .int .i64 0, .string ⟨#[]⟩, .slice none 0 0, .slice none 0 0] (HZ9.out.setAll [.string ⟨#[]⟩, .int .i64 0, .int .i64 0, .int .i64 0, .string ⟨#[]⟩, .slice none 0 0, .slice none 0 0] rfl) _ _ rfl rfl Tryz.underlying46 rfl (by kernel_rfl)) rfl ?_
    exact err_none HNO.out (HB9.out.trans (below_of_grown (setN_grown [.string ⟨#[]⟩, .int .i64 0, .int .i64 0, .int .i64 0, .string ⟨#[]⟩, .slice none 0 0, .slice none 0 0] 0 (grown_refl _ (some w.heap.size))) (Nat.le_refl _) HB9.out.size))
  have HEND := hide hend
  have hei : (n : Int) = (s.size : Int) := by omega
  have hej : ((n : Int) == (s.size : Int)) = true := by simp [hend]
  have HW := hide (specEventWrite_any (Event.mk x v k) _ fq w9 HE.out HN9.out.lt (by rw [Event.bulk_eq]; simp only; omega))
  obtain ⟨t, ht⟩ : ∃ t, (Event.mk x v k).write = t := ⟨_, rfl⟩
  rw [ht] at HW
  have HTW := hide ht
  clear hend ht hns
  rw [hei] at r1
  clear hei
  go_wp2_with fail
  refine HW.out.mono ?_
  rintro e w10 ⟨rfl, hb10⟩
  have HB10 := hide (HB9.out.trans (hb10.mono HB9.out.size))
  have HZ10 := hide (HZ9.out.below hb10 HZ9.out.lt)
  have HX10 := hide (HX9.out.below hb10 HX9.out.lt)
  have HE10 := hide (HE.out.below hb10 HN9.out.lt)
  have HN10 := hide (HN9.out.below hb10 HN9.out.lt)
  clear r1 r2 rl q0 q1 q2 q3 q4 q5 q6 ql z0 y0 z1 y1 z2 y2 z3 y3 z4 y4 z5 y5 z6 y6 lz hb10 HW HB9 HZ9 HX9 HE HN9 HRow HR9
  have q0 := HX10.out.cell 0
  have q1 := HX10.out.cell 1
  have q2 := HX10.out.cell 2
  have q3 := HX10.out.cell 3
  have q4 := HX10.out.cell 4
  have q5 := HX10.out.cell 5
  have q6 := HX10.out.cell 6
  have ql := HX10.out.lt
  have z0 := HZ10.out.cell 0
  have y0 := HZ10.out.frozen 0
  have z1 := HZ10.out.cell 1
  have y1 := HZ10.out.frozen 1
  have z2 := HZ10.out.cell 2
  have y2 := HZ10.out.frozen 2
  have z3 := HZ10.out.cell 3
  have y3 := HZ10.out.frozen 3
  have z4 := HZ10.out.cell 4
  have y4 := HZ10.out.frozen 4
  have z5 := HZ10.out.cell 5
  have y5 := HZ10.out.frozen 5
  have z6 := HZ10.out.cell 6
  have y6 := HZ10.out.frozen 6
  have lz := HZ10.out.lt
  by_cases htx : t = s
  rotate_left
  · obtain ⟨e1, e2⟩ := ne_lists (fun h => htx (bl_inj h))
    have HNE := hide htx
    clear htx
    have HNO := hide (show readE s = none from readE_no (fun e h1 h2 => by
      have h3 := (HPL.out e h1 h2).1
      subst h3
      exact HNE.out (HTW.out.symm.trans ((Event.write_ok h1).trans h2))))
    go_wp2
    refine bodyPost_ret (ret_row_tmp rfl _ _ w.heap.size 46 [.string ⟨#[]⟩, .int .i64 0, .int .i64 0, .int .i64 0, .string ⟨#[]⟩, .slice none 0 0, .slice none 0 0] (HZ10.out.setAll [.string ⟨#[]⟩, .int .i64 0, .int .i64 0, .int .i64 0, .string ⟨#[]⟩, .slice none 0 0, .slice none 0 0] rfl) _ _ rfl rfl Tryz.underlying46 rfl (by kernel_rfl)) rfl ?_
    exact err_none HNO.out (HB10.out.trans (below_of_grown (setN_grown [.string ⟨#[]⟩, .int .i64 0, .int .i64 0, .int .i64 0, .string ⟨#[]⟩, .slice none 0 0, .slice none 0 0] 0 (grown_refl _ (some w.heap.size))) (Nat.le_refl _) HB10.out.size))
  obtain ⟨e1, e2⟩ := eq_lists (a := t) (b := s) (by rw [htx])
  have HTS := hide (HTW.out.trans htx)
  clear htx
  by_cases hemp : s = .empty
  · have f1_ : s.toList = [] := by rw [hemp, Lib.toList_data]; rfl
    have f2_ : (s.toList == []) = true := by simpa using f1_
    have HEM := hide hemp
    clear hemp
    have HNO := hide (show readE s = none from readE_no (fun e h1 h2 => Event.wr_ne (h2.trans HEM.out)))
    go_wp2
    refine bodyPost_ret (ret_row_tmp rfl _ _ w.heap.size 46 [.string ⟨#[]⟩, .int .i64 0, .int .i64 0, .int .i64 0, .string ⟨#[]⟩, .slice none 0 0, .slice none 0 0] (HZ10.out.setAll [.string ⟨#[]⟩, .int .i64 0, .int .i64 0, .int .i64 0, .string ⟨#[]⟩, .slice none 0 0, .slice none 0 0] rfl) _ _ rfl rfl Tryz.underlying46 rfl (by kernel_rfl)) rfl ?_
    exact err_none HNO.out (HB10.out.trans (below_of_grown (setN_grown [.string ⟨#[]⟩, .int .i64 0, .int .i64 0, .int .i64 0, .string ⟨#[]⟩, .slice none 0 0, .slice none 0 0] 0 (grown_refl _ (some w.heap.size))) (Nat.le_refl _) HB10.out.size))
  have hse : ¬ (s.toList = []) := fun h => hemp (by
    rw [Lib.toList_data] at h
    exact bl_inj (by unfold bl; rw [h]; rfl))
  have hsf : (s.toList == []) = false := by simpa using hse
  have HYES := hide (show readE s = some (Event.mk x v k) from by
    obtain ⟨h1, h2⟩ := Event.write_eq HTS.out hemp
    exact readE_yes w h1 h2)
  clear hemp
  go_wp2
  refine bodyPost_ret (ret_row_tmp rfl _ _ w.heap.size 46 [.string x, .int .i64 v, .int .i64 k.sort, .int .i64 k.num, .string k.text, .slice B1 k.names.length d1, .slice B2 k.kids.length d2] (HZ10.out.setAll [.string x, .int .i64 v, .int .i64 k.sort, .int .i64 k.num, .string k.text, .slice B1 k.names.length d1, .slice B2 k.kids.length d2] rfl) _ _ rfl rfl Tryz.underlying46 rfl (by kernel_rfl)) rfl ?_
  have hgr := setN_grown [.string x, .int .i64 v, .int .i64 k.sort, .int .i64 k.num, .string k.text, .slice B1 k.names.length d1, .slice B2 k.kids.length d2] 0 (grown_refl w10 (some w.heap.size))
  have hno : w.heap.size ∉ fq := HN10.out.out (by omega)
  exact err_some HYES.out (HE10.out.grown hgr HN10.out.lt hno) ((HN10.out.grown hgr (fun q e => by injection e with e; subst e; exact hno)).mono (by omega)) (HB10.out.trans (below_of_grown hgr (Nat.le_refl _) HB10.out.size))
end Go.Proofs.YtnaecdoeldoipaaGreatDoor
set_option linter.unusedVariables false
set_option linter.unusedSimpArgs false
namespace Go.Proofs.YtnaecdoeldoipaaGreatDoor
open Go.ChangeShapes Go.WideShapes Go.ChangeAt Go.RowKit

theorem data_toArray (l : List UInt8) : bl ⟨l.toArray⟩ = l := by simp [bl]
/-- how the program cuts it -/
theorem ev_cutI (w : World) {s x r : ByteArray} (hx : bl x = (Lib.cut (bl s) [64]).1) (hr : bl r = (Lib.cut (bl s) [64]).2.1) {e : Event} (he : e.ok) (hs : e.wr = s) :
    x = e.type_ ∧ ∃ o : Nat, Lib.indexByte (bl r) 123 = (o : Int) ∧ numOf (r.extract 0 o) = some e.version ∧ treeRead (r.extract o r.size) = e.body ∧ treeReadB (r.extract o r.size) = true := by
  have hc := Event.cut he
  rw [hs] at hc
  rw [hc] at hx hr
  simp only at hx hr
  have hb := Event.brace he
  rw [← hr] at hb
  have hsz := congrArg List.length hr
  rw [List.length_append, bl_len] at hsz
  have h1 : r.extract 0 (bl (dec e.version)).length = dec e.version := bl_inj (by
    rw [sub_bl, hr, List.drop_zero, Nat.sub_zero, List.take_left])
  have h2 : r.extract (bl (dec e.version)).length r.size = e.body.wr := bl_inj (by
    rw [sub_bl, hr, List.drop_left, List.take_of_length_le (by omega)])
  have h3 : readT e.body.wr = some e.body := by
    cases h : readT e.body.wr with
    | none => exact absurd rfl (readT_none h e.body he.2.2.2)
    | some k =>
      obtain ⟨a1, a2⟩ := readT_some h
      rw [Tree.wr_inj w a1 he.2.2.2 a2]
  refine ⟨bl_inj hx, _, hb, ?_, ?_, ?_⟩
  · rw [h1]
    exact numOf_dec _ (by have := he.2.1.1; omega) (by have := he.2.1.2; omega)
  · rw [h2]; unfold treeRead; rw [h3]; rfl
  · rw [h2]; unfold treeReadB; rw [h3]; rfl
theorem cut_sizes (a b : List UInt8) : (Lib.cut a b).1.length ≤ a.length ∧ (Lib.cut a b).2.1.length ≤ a.length := by
  unfold Lib.cut
  split
  · simp only [List.length_take, List.length_drop]; omega
  · simp
theorem ib_bounds (l : List UInt8) (c : UInt8) : -1 ≤ Lib.indexByte l c ∧ Lib.indexByte l c ≤ l.length := by
  refine ⟨Lib.indexByte_ge l c, ?_⟩
  rw [← Lib.index_one]
  exact Lib.index_le l [c]
theorem treeRead_bulk (w : World) (s : ByteArray) (hs : s.size ≤ 10000) : (treeRead s).bulk ≤ 50000 := by
  unfold treeRead
  cases h : readT s with
  | none => decide
  | some k =>
    obtain ⟨h1, h2⟩ := readT_some h
    have hR : RdK (w.alloc (.cells [.string s, .int .i64 0, .bool false].toArray 75)) w.heap.size s 0 (bl s) false :=
      ⟨0, Row.new w _ _, hs, by omega, fun _ => by omega, rfl⟩
    obtain ⟨e, w', k', us, fq, l', b', _, _, _, _, _, hp, ht, _⟩ := Calls.some_end (treeRdS_any 6 s (bl s) false w.heap.size 1 _ (by omega) (by omega) hR)
    have h3 := (ht k [] h1.1 Ender.nil rfl (by rw [h2, List.append_nil])).1
    rw [h3] at hp
    have := hp.2.1
    rw [bl_len] at this
    show k.bulk ≤ 50000
    omega
set_option maxRecDepth 100000 in
set_option maxHeartbeats 4000000 in
theorem implEventRead_any (s : ByteArray) (w : World) (hs : s.size ≤ 1048576) (hl : Lay w) (h7 : 5 < w.heap.size) :
    Calls Tryz.prog 25 #[.string s] w (EventReadRet s w) := by
  have HL0 := hide hl
  have H7 := hide h7
  clear hl
  go_enter Tryz.func25, Tryz.ntmps25
  go_upto_region 1 with fail
  generalize hw1 : w.alloc _ = w1
  have hb1 : Below w.heap.size w w1 := by rw [← hw1]; exact (Below.refl _ _).alloc (Nat.le_refl _) _
  have HZ := hide (show Row w1 w.heap.size 46 [.string ⟨#[]⟩, .int .i64 0, .int .i64 0, .int .i64 0, .string ⟨#[]⟩, .slice none 0 0, .slice none 0 0] from by rw [← hw1]; exact Row.new w _ _)
  have hz1 := HZ.out.lt
  have HB1 := hide hb1
  have HL1 := hide (HL0.out.below hb1)
  clear hw1 hb1
  obtain ⟨mm, hmm⟩ := HL1.out.max
  have HCU := hide (Tryz.strings_Cut s ⟨#[64]⟩ mm w1 (by omega) hmm)
  obtain ⟨x, hx⟩ : ∃ x : ByteArray, (⟨(Lib.cut s.data.toList (ByteArray.mk #[64]).data.toList).1.toArray⟩ : ByteArray) = x := ⟨_, rfl⟩
  obtain ⟨r, hr⟩ : ∃ x : ByteArray, (⟨(Lib.cut s.data.toList (ByteArray.mk #[64]).data.toList).2.1.toArray⟩ : ByteArray) = x := ⟨_, rfl⟩
  rw [hx, hr] at HCU
  have HX := hide (show bl x = (Lib.cut (bl s) [64]).1 from by rw [← hx, data_toArray]; rfl)
  have HRR := hide (show bl r = (Lib.cut (bl s) [64]).2.1 from by rw [← hr, data_toArray]; rfl)
  have hxs : x.size ≤ s.size := by have := congrArg List.length HX.out; rw [bl_len] at this; have h2 := (cut_sizes (bl s) [64]).1; rw [bl_len] at h2; omega
  have hrs : r.size ≤ s.size := by have := congrArg List.length HRR.out; rw [bl_len] at this; have h2 := (cut_sizes (bl s) [64]).2; rw [bl_len] at h2; omega
  generalize (Lib.cut s.data.toList (ByteArray.mk #[64]).data.toList).2.2 = fnd at HCU
  clear hx hr hmm
  go_wp2_with fail
  refine HCU.out.mono ?_
  rintro e w2 ⟨rfl, q2, hw2⟩
  have HZ2 := hide (show Row w2 w.heap.size 46 [.string ⟨#[]⟩, .int .i64 0, .int .i64 0, .int .i64 0, .string ⟨#[]⟩, .slice none 0 0, .slice none 0 0] from by rw [hw2]; exact HZ.out.drewN q2)
  have HB2 := hide (show Below w.heap.size w w2 from by rw [hw2]; exact below_drewN HB1.out q2)
  have HL2 := hide (HL0.out.below HB2.out)
  clear hw2 HCU HZ HB1 HL1 hz1
  have HIB := hide (Tryz.strings_IndexByte r 123 w2)
  obtain ⟨i, hi⟩ : ∃ i, Lib.indexByte r.data.toList (123 : Int).toNat.toUInt8 = i := ⟨_, rfl⟩
  rw [hi] at HIB
  have HI := hide (show Lib.indexByte (bl r) 123 = i from hi)
  have hib := ib_bounds (bl r) 123
  rw [HI.out, bl_len] at hib
  clear hi
  go_wp2_with fail
  refine HIB.out.mono ?_
  rintro e w3 ⟨rfl, hw3⟩
  rw [hw3]
  clear hw3 w3 HIB
  have HCUT := hide (fun (e : Event) (he : e.ok) (hs : e.wr = s) => ev_cutI w HX.out HRR.out he hs)
  have z0 := HZ2.out.cell 0
  have y0 := HZ2.out.frozen 0
  have z1 := HZ2.out.cell 1
  have y1 := HZ2.out.frozen 1
  have z2 := HZ2.out.cell 2
  have y2 := HZ2.out.frozen 2
  have z3 := HZ2.out.cell 3
  have y3 := HZ2.out.frozen 3
  have z4 := HZ2.out.cell 4
  have y4 := HZ2.out.frozen 4
  have z5 := HZ2.out.cell 5
  have y5 := HZ2.out.frozen 5
  have z6 := HZ2.out.cell 6
  have y6 := HZ2.out.frozen 6
  have lz := HZ2.out.lt
  by_cases hlen : (10000 : Int) < (s.size : Int)
  · skip
    have HNO := hide (show readE s = none from readE_long (by omega))
    go_wp2
    refine bodyPost_ret (ret_row_tmp rfl _ _ w.heap.size 46 [.string ⟨#[]⟩, .int .i64 0, .int .i64 0, .int .i64 0, .string ⟨#[]⟩, .slice none 0 0, .slice none 0 0] (HZ2.out.setAll [.string ⟨#[]⟩, .int .i64 0, .int .i64 0, .int .i64 0, .string ⟨#[]⟩, .slice none 0 0, .slice none 0 0] rfl) _ _ rfl rfl Tryz.underlying46 rfl (by kernel_rfl)) rfl ?_
    exact err_none HNO.out (HB2.out.trans (below_of_grown (setN_grown [.string ⟨#[]⟩, .int .i64 0, .int .i64 0, .int .i64 0, .string ⟨#[]⟩, .slice none 0 0, .slice none 0 0] 0 (grown_refl _ (some w.heap.size))) (Nat.le_refl _) HB2.out.size))
  by_cases hi0 : i < 0
  · skip
    have HNO := hide (show readE s = none from readE_no (fun e h1 h2 => by
      obtain ⟨-, o, h3, -⟩ := HCUT.out e h1 h2
      rw [HI.out] at h3
      omega))
    go_wp2
    refine bodyPost_ret (ret_row_tmp rfl _ _ w.heap.size 46 [.string ⟨#[]⟩, .int .i64 0, .int .i64 0, .int .i64 0, .string ⟨#[]⟩, .slice none 0 0, .slice none 0 0] (HZ2.out.setAll [.string ⟨#[]⟩, .int .i64 0, .int .i64 0, .int .i64 0, .string ⟨#[]⟩, .slice none 0 0, .slice none 0 0] rfl) _ _ rfl rfl Tryz.underlying46 rfl (by kernel_rfl)) rfl ?_
    exact err_none HNO.out (HB2.out.trans (below_of_grown (setN_grown [.string ⟨#[]⟩, .int .i64 0, .int .i64 0, .int .i64 0, .string ⟨#[]⟩, .slice none 0 0, .slice none 0 0] 0 (grown_refl _ (some w.heap.size))) (Nat.le_refl _) HB2.out.size))
  obtain ⟨p, rfl⟩ : ∃ p : Nat, i = (p : Int) := ⟨i.toNat, by omega⟩
  have hpr : p ≤ r.size := by omega
  have hp0 : (0 : Int) ≤ (p : Int) := by omega
  have hprI : (p : Int) ≤ (r.size : Int) := by omega
  have HNC := hide (readNum_any (r.extract 0 p) w2 (by rw [ByteArray.size_extract]; omega) HL2.out)
  obtain ⟨u1, hu1⟩ : ∃ u, r.extract 0 p = u := ⟨_, rfl⟩
  obtain ⟨u2, hu2⟩ : ∃ u, r.extract p r.size = u := ⟨_, rfl⟩
  have hu2s : u2.size ≤ 10000 := by rw [← hu2, ByteArray.size_extract]; omega
  have HU2 := hide hu2
  have HU1 := hide hu1
  rw [hu1] at HNC
  clear z0 y0 z1 y1 z2 y2 z3 y3 z4 y4 z5 y5 z6 y6 lz hib hi0
  obtain ⟨one, hone⟩ : ∃ b, (numOf u1).isSome = b := ⟨_, rfl⟩
  rw [hone] at HNC
  have HONE := hide hone
  clear hone
  go_wp2_with fail
  try rw [hu1]
  refine HNC.out.mono ?_
  rintro e w4 ⟨⟨v, rfl, hv, hvz⟩, hb4⟩
  have HVZ := hide hvz
  have HZ4 := hide (HZ2.out.below hb4 HZ2.out.lt)
  have HB4 := hide (HB2.out.trans (hb4.mono HB2.out.size))
  have HL4 := hide (HL0.out.below HB4.out)
  have HTC := hide (implTreeRead_any u2 w4 (by unfold maxLen; omega) HL4.out (Nat.lt_of_lt_of_le H7.out HB4.out.size))
  obtain ⟨two, htwo⟩ : ∃ b, treeReadB u2 = b := ⟨_, rfl⟩
  have HTWO := hide htwo
  have HTB := hide (treeRead_bulk w u2 hu2s)
  obtain ⟨k, hk⟩ : ∃ k, treeRead u2 = k := ⟨_, rfl⟩
  have HKK := hide hk
  rw [hk] at HTB
  unfold TreeReadRet at HTC
  rw [htwo, hk] at HTC
  clear hvz hb4 HNC HZ2 HB2 HL2 htwo hk
  go_wp2_with fail
  try rw [hu2]
  refine HTC.out.mono ?_
  rintro e w5 ⟨us, fq, rfl, ho5, hn5, hb5⟩
  obtain ⟨B1, d1, B2, d2, f1, f2, rfl, k0, k1, k2, k3, k4, efq⟩ := ho5.oTree
  have HO5 := hide ho5
  have HN5 := hide (hn5.mono (show w.heap.size + 1 ≤ w4.heap.size from HZ4.out.lt))
  have HZ5 := hide (HZ4.out.below hb5 HZ4.out.lt)
  have HB5 := hide (HB4.out.trans (hb5.mono HB4.out.size))
  clear ho5 hn5 hb5 HTC HZ4 HB4 HL4 k3 k4 efq
  go_upto_region 7 with fail
  generalize hw6 : w5.alloc _ = w6
  have hb6 : Below w5.heap.size w5 w6 := by rw [← hw6]; exact (Below.refl _ _).alloc (Nat.le_refl _) _
  have HT6 := hide (show Row w6 w5.heap.size 26 [.int .i64 k.sort, .int .i64 k.num, .string k.text, .slice B1 k.names.length d1, .slice B2 k.kids.length d2] from by rw [← hw6]; exact Row.new w5 _ _)
  have HO6 := hide (HO5.out.below hb6 HN5.out.lt)
  have HN6 := hide (HN5.out.below hb6 HN5.out.lt)
  have HZ6 := hide (HZ5.out.below hb6 HZ5.out.lt)
  have HB6 := hide (HB5.out.trans (hb6.mono HB5.out.size))
  clear hw6 hb6 HO5 HN5 HZ5 HB5
  have t0 := HT6.out.cell 0
  have t1 := HT6.out.cell 1
  have t2 := HT6.out.cell 2
  have t3 := HT6.out.cell 3
  have t4 := HT6.out.cell 4
  have tl := HT6.out.lt
  go_upto_region 8 with fail
  generalize hw7 : w6.alloc _ = w7
  have hb7 : Below w6.heap.size w6 w7 := by rw [← hw7]; exact (Below.refl _ _).alloc (Nat.le_refl _) _
  have HX7 := hide (show Row w7 w6.heap.size 46 [.string x, .int .i64 v, .int .i64 k.sort, .int .i64 k.num, .string k.text, .slice B1 k.names.length d1, .slice B2 k.kids.length d2] from by rw [← hw7]; exact Row.new w6 _ _)
  have HO7 := hide (HO6.out.below hb7 HN6.out.lt)
  have HN7 := hide (HN6.out.below hb7 HN6.out.lt)
  have HZ7 := hide (HZ6.out.below hb7 HZ6.out.lt)
  have HB7 := hide (HB6.out.trans (hb7.mono HB6.out.size))
  have HL7 := hide (HL0.out.below HB7.out)
  have hxl : x.size ≤ maxLen := by unfold maxLen; omega
  have HE := hide (show OwC w7 (Event.mk x v k).cells [.string x, .int .i64 v, .int .i64 k.sort, .int .i64 k.num, .string k.text, .slice B1 k.names.length d1, .slice B2 k.kids.length d2] fq from by
    obtain ⟨C1, e1, C2, e2, q1, q2, he, _, _, _, k3', k4', rfl⟩ := HO7.out.oTree
    simp only [List.cons.injEq, Value.slice.injEq, and_true, true_and] at he
    obtain ⟨⟨rfl, rfl⟩, rfl, rfl⟩ := he
    exact OwC.mEvent (x := Event.mk x v k) hxl (show (Lit.int .i64 v).wf = true from wfiR (by omega) (by omega)) k0 k1 k2 k3' k4')
  clear t0 t1 t2 t3 t4 tl hw7 hb7 HT6 HO6 HN6 HZ6 HB6 HO7 k0 k1 k2 hxl
  have HPL := hide (fun (e : Event) (he : e.ok) (hs : e.wr = s) => show e = ⟨x, v, k⟩ ∧ one = true ∧ two = true from by
    obtain ⟨h1, o, h2, h3, h4, h5⟩ := HCUT.out e he hs
    have h6 : p = o := by have := HI.out.symm.trans h2; omega
    subst h6
    rw [HU1.out] at h3
    rw [HU2.out] at h4 h5
    have h7 := HVZ.out _ h3
    have h8 := HONE.out
    rw [h3] at h8
    refine ⟨?_, h8.symm, HTWO.out.symm.trans h5⟩
    rw [h1, h7, ← HKK.out, h4])
  have q0 := HX7.out.cell 0
  have q1 := HX7.out.cell 1
  have q2 := HX7.out.cell 2
  have q3 := HX7.out.cell 3
  have q4 := HX7.out.cell 4
  have q5 := HX7.out.cell 5
  have q6 := HX7.out.cell 6
  have ql := HX7.out.lt
  have z0 := HZ7.out.cell 0
  have y0 := HZ7.out.frozen 0
  have z1 := HZ7.out.cell 1
  have y1 := HZ7.out.frozen 1
  have z2 := HZ7.out.cell 2
  have y2 := HZ7.out.frozen 2
  have z3 := HZ7.out.cell 3
  have y3 := HZ7.out.frozen 3
  have z4 := HZ7.out.cell 4
  have y4 := HZ7.out.frozen 4
  have z5 := HZ7.out.cell 5
  have y5 := HZ7.out.frozen 5
  have z6 := HZ7.out.cell 6
  have y6 := HZ7.out.frozen 6
  have lz := HZ7.out.lt
  clear hu1 hu2
  rcases one with _ | _
  · skip
    have HNO := hide (show readE s = none from readE_no (fun e h1 h2 => by have := (HPL.out e h1 h2).2.1; cases this))
    go_wp2
    refine bodyPost_ret (ret_row_tmp rfl _ _ w.heap.size 46 [.string ⟨#[]⟩, .int .i64 0, .int .i64 0, .int .i64 0, .string ⟨#[]⟩, .slice none 0 0, .slice none 0 0] (HZ7.out.setAll [.string ⟨#[]⟩, .int .i64 0, .int .i64 0, .int .i64 0, .string ⟨#[]⟩, .slice none 0 0, .slice none 0 0] rfl) _ _ rfl rfl Tryz.underlying46 rfl (by kernel_rfl)) rfl ?_
    exact err_none HNO.out (HB7.out.trans (below_of_grown (setN_grown [.string ⟨#[]⟩, .int .i64 0, .int .i64 0, .int .i64 0, .string ⟨#[]⟩, .slice none 0 0, .slice none 0 0] 0 (grown_refl _ (some w.heap.size))) (Nat.le_refl _) HB7.out.size))
  rcases two with _ | _
  · skip
    have HNO := hide (show readE s = none from readE_no (fun e h1 h2 => by have := (HPL.out e h1 h2).2.2; cases this))
    go_wp2
    refine bodyPost_ret (ret_row_tmp rfl _ _ w.heap.size 46 [.string ⟨#[]⟩, .int .i64 0, .int .i64 0, .int .i64 0, .string ⟨#[]⟩, .slice none 0 0, .slice none 0 0] (HZ7.out.setAll [.string ⟨#[]⟩, .int .i64 0, .int .i64 0, .int .i64 0, .string ⟨#[]⟩, .slice none 0 0, .slice none 0 0] rfl) _ _ rfl rfl Tryz.underlying46 rfl (by kernel_rfl)) rfl ?_
    exact err_none HNO.out (HB7.out.trans (below_of_grown (setN_grown [.string ⟨#[]⟩, .int .i64 0, .int .i64 0, .int .i64 0, .string ⟨#[]⟩, .slice none 0 0, .slice none 0 0] 0 (grown_refl _ (some w.heap.size))) (Nat.le_refl _) HB7.out.size))
  have HW := hide (implEventWrite_any (Event.mk x v k) _ fq w7 HE.out HN7.out.lt (by rw [Event.bulk_eq]; simp only; have := HTB.out; omega) HL7.out.tab)
  obtain ⟨t, ht⟩ : ∃ t, (Event.mk x v k).write = t := ⟨_, rfl⟩
  rw [ht] at HW
  have HTW := hide ht
  clear ht
  go_wp2_with fail
  refine HW.out.mono ?_
  rintro e w10 ⟨rfl, hb10⟩
  have HB10 := hide (HB7.out.trans (hb10.mono HB7.out.size))
  have HZ10 := hide (HZ7.out.below hb10 HZ7.out.lt)
  have HX10 := hide (HX7.out.below hb10 HX7.out.lt)
  have HE10 := hide (HE.out.below hb10 HN7.out.lt)
  have HN10 := hide (HN7.out.below hb10 HN7.out.lt)
  clear q0 q1 q2 q3 q4 q5 q6 ql z0 y0 z1 y1 z2 y2 z3 y3 z4 y4 z5 y5 z6 y6 lz hb10 HW HB7 HZ7 HX7 HE HN7
  have q0 := HX10.out.cell 0
  have q1 := HX10.out.cell 1
  have q2 := HX10.out.cell 2
  have q3 := HX10.out.cell 3
  have q4 := HX10.out.cell 4
  have q5 := HX10.out.cell 5
  have q6 := HX10.out.cell 6
  have ql := HX10.out.lt
  have z0 := HZ10.out.cell 0
  have y0 := HZ10.out.frozen 0
  have z1 := HZ10.out.cell 1
  have y1 := HZ10.out.frozen 1
  have z2 := HZ10.out.cell 2
  have y2 := HZ10.out.frozen 2
  have z3 := HZ10.out.cell 3
  have y3 := HZ10.out.frozen 3
  have z4 := HZ10.out.cell 4
  have y4 := HZ10.out.frozen 4
  have z5 := HZ10.out.cell 5
  have y5 := HZ10.out.frozen 5
  have z6 := HZ10.out.cell 6
  have y6 := HZ10.out.frozen 6
  have lz := HZ10.out.lt
  by_cases htx : t = s
  rotate_left
  · obtain ⟨e1, e2⟩ := ne_lists (fun h => htx (bl_inj h))
    have HNE := hide htx
    clear htx
    have HNO := hide (show readE s = none from readE_no (fun e h1 h2 => by
      have h3 := (HPL.out e h1 h2).1
      subst h3
      exact HNE.out (HTW.out.symm.trans ((Event.write_ok h1).trans h2))))
    go_wp2
    refine bodyPost_ret (ret_row_tmp rfl _ _ w.heap.size 46 [.string ⟨#[]⟩, .int .i64 0, .int .i64 0, .int .i64 0, .string ⟨#[]⟩, .slice none 0 0, .slice none 0 0] (HZ10.out.setAll [.string ⟨#[]⟩, .int .i64 0, .int .i64 0, .int .i64 0, .string ⟨#[]⟩, .slice none 0 0, .slice none 0 0] rfl) _ _ rfl rfl Tryz.underlying46 rfl (by kernel_rfl)) rfl ?_
    exact err_none HNO.out (HB10.out.trans (below_of_grown (setN_grown [.string ⟨#[]⟩, .int .i64 0, .int .i64 0, .int .i64 0, .string ⟨#[]⟩, .slice none 0 0, .slice none 0 0] 0 (grown_refl _ (some w.heap.size))) (Nat.le_refl _) HB10.out.size))
  obtain ⟨e1, e2⟩ := eq_lists (a := t) (b := s) (by rw [htx])
  have HTS := hide (HTW.out.trans htx)
  clear htx
  have HYES := hide (show readE s = some (Event.mk x v k) from by
    have hne : s ≠ .empty := fun h => by
      have h1 := HI.out
      have h2 := congrArg List.length HRR.out
      rw [h, bl_len] at h2
      have h3 := (cut_sizes (bl (.empty)) [64]).2
      rw [bl_len, ByteArray.size_empty] at h3
      have h4 : bl r = [] := List.eq_nil_of_length_eq_zero (by rw [bl_len]; omega)
      rw [h4] at h1
      simp only [Lib.indexByte] at h1
      omega
    obtain ⟨h1, h2⟩ := Event.write_eq HTS.out hne
    exact readE_yes w h1 h2)
  go_wp2
  refine bodyPost_ret (ret_row_tmp rfl _ _ w.heap.size 46 [.string x, .int .i64 v, .int .i64 k.sort, .int .i64 k.num, .string k.text, .slice B1 k.names.length d1, .slice B2 k.kids.length d2] (HZ10.out.setAll [.string x, .int .i64 v, .int .i64 k.sort, .int .i64 k.num, .string k.text, .slice B1 k.names.length d1, .slice B2 k.kids.length d2] rfl) _ _ rfl rfl Tryz.underlying46 rfl (by kernel_rfl)) rfl ?_
  have hgr := setN_grown [.string x, .int .i64 v, .int .i64 k.sort, .int .i64 k.num, .string k.text, .slice B1 k.names.length d1, .slice B2 k.kids.length d2] 0 (grown_refl w10 (some w.heap.size))
  have hno : w.heap.size ∉ fq := HN10.out.out (by omega)
  exact err_some HYES.out (HE10.out.grown hgr HN10.out.lt hno) ((HN10.out.grown hgr (fun q e => by injection e with e; subst e; exact hno)).mono (by omega)) (HB10.out.trans (below_of_grown hgr (Nat.le_refl _) HB10.out.size))
end Go.Proofs.YtnaecdoeldoipaaGreatDoor
set_option linter.unusedVariables false
set_option linter.unusedSimpArgs false
namespace Go.Proofs.YtnaecdoeldoipaaGreatDoor
open Go.ChangeShapes Go.WideShapes Go.ChangeAt Go.RowKit

theorem Tree.cnt_le : ∀ (t : Tree), t.cnt ≤ 3 + 3 * t.bulk := by
  intro t
  refine Tree.ind (P := fun t => t.cnt ≤ 3 + 3 * t.bulk) (fun t ih => ?_) t
  have hs : ∀ (l : List Tree), (∀ x ∈ l, x.cnt ≤ 3 + 3 * x.bulk) → Tree.cntS l ≤ 3 * l.length + 3 * Tree.bulkS l := by
    intro l
    induction l with
    | nil => intro _; simp [Tree.cntS]
    | cons x r ih2 =>
      intro h
      have h1 := h x (by simp)
      have h2 := ih2 (fun y hy => h y (by simp [hy]))
      simp only [Tree.cntS, Tree.bulkS, List.length_cons]
      omega
  have h1 := hs t.kids ih
  have h2 := t.cnt_eq
  have h3 := t.bulk_eq
  unfold bulkStrs at h3
  omega
theorem Tree.cntTop_le (t : Tree) : t.cntTop ≤ 3 + 3 * t.bulk := by
  have h1 := t.cnt_le
  have h2 := t.cnt_eq
  have h3 := t.cntTop_eq
  omega
set_option maxRecDepth 100000 in
theorem markEvent_touch (x : Event) (us : List Value) (fp : List Nat) (lo : Nat) (z : Int) (k0 : Nat) (w : World) (hz : z = k0) (ho : OwC w x.cells us fp) (hn : New w fp lo) (hb : k0 + x.body.cntTop ≤ 1099511627776) :
    Calls Tryz.prog 27 #[.agg us.toArray, .int .i64 z] w fun e w' => e = .returned (.int .i64 ((k0 + x.body.cntTop : Nat) : Int)) ∧ Touch fp w w' := by
  subst hz
  have ho' := ho
  obtain ⟨A1, c1, A2, c2, f1, f2, rfl, w0, w1, w2, w3, w4, o1, o2, rfl⟩ := ho.oEvent
  have hw1 : Below w.heap.size w (w.alloc (.cells #[.string x.type_, .int .i64 x.version, .int .i64 x.body.sort, .int .i64 x.body.num, .string x.body.text, .slice A1 x.body.names.length c1, .slice A2 x.body.kids.length c2] 46)) := (Below.refl _ _).alloc (Nat.le_refl _) _
  have HO := hide (ho'.oBody.below hw1 hn.lt)
  have HN := hide (hn.below hw1 hn.lt)
  have T0 := hide (Touch.below (fp := f1 ++ f2) hw1)
  clear ho ho' o1 o2 hw1
  go_enter Tryz.func27, Tryz.ntmps27
  go_wp2_with fail
  refine (markTree_any x.body _ _ lo _ k0 _ rfl HO.out HN.out hb).mono ?_
  rintro e w' ⟨y, rfl, _, _, ht⟩
  have HT := hide (T0.out.trans ht)
  go_wp2
  go_ret
  exact ⟨rfl, HT.out⟩
end Go.Proofs.YtnaecdoeldoipaaGreatDoor
set_option linter.unusedVariables false
set_option linter.unusedSimpArgs false
namespace Go.Proofs.YtnaecdoeldoipaaGreatDoor
open Go.ChangeShapes Go.WideShapes Go.ChangeAt Go.RowKit

def Event.mkTop (x : Event) (a b : Nat) : Prop := x.body.mkTop a b
def Event.cntTop (x : Event) : Nat := x.body.cntTop
theorem Event.cntTop_eq (x : Event) : x.cntTop = x.body.cntTop := rfl
set_option maxRecDepth 100000 in
theorem markEvent_any (x : Event) (us : List Value) (fp : List Nat) (lo : Nat) (z : Int) (k0 : Nat) (w : World) (hz : z = k0) (ho : OwC w x.cells us fp) (hn : New w fp lo) (hb : k0 + x.cntTop ≤ 1099511627776) :
    Calls Tryz.prog 27 #[.agg us.toArray, .int .i64 z] w fun e w' => ∃ (x' : Event), e = .returned (.int .i64 ((k0 + x.cntTop : Nat) : Int)) ∧ OwC w' x'.cells us fp ∧ x'.mkTop k0 (k0 + x.cntTop) ∧ Touch fp w w' := by
  subst hz
  have hc := x.cntTop_eq
  have ho' := ho
  obtain ⟨A1, c1, A2, c2, f1, f2, rfl, w0, w1, w2, w3, w4, o1, o2, rfl⟩ := ho.oEvent
  have hw1 : Below w.heap.size w (w.alloc (.cells #[.string x.type_, .int .i64 x.version, .int .i64 x.body.sort, .int .i64 x.body.num, .string x.body.text, .slice A1 x.body.names.length c1, .slice A2 x.body.kids.length c2] 46)) := (Below.refl _ _).alloc (Nat.le_refl _) _
  have HO := hide (ho'.oBody.below hw1 hn.lt)
  have HN := hide (hn.below hw1 hn.lt)
  have T0 := hide (Touch.below (fp := f1 ++ f2) hw1)
  rw [hc] at hb
  clear ho ho' o1 o2 hw1 hc
  go_enter Tryz.func27, Tryz.ntmps27
  go_wp2_with fail
  refine (markTree_any x.body _ _ lo _ k0 _ rfl HO.out HN.out hb).mono ?_
  rintro e w' ⟨y, rfl, yo, ym, ht⟩
  have HT := hide (T0.out.trans ht)
  have HYO := hide yo
  have HYM := hide ym
  clear yo ym ht
  go_wp2
  go_ret
  refine ⟨⟨x.type_, x.version, y⟩, rfl, ?_, HYM.out, HT.out⟩
  obtain ⟨B1, d1, B2, d2, g1, g2, e1, v0, v1, v2, q1, q2, e2⟩ := HYO.out.oTree
  simp only [List.cons.injEq, and_true] at e1
  obtain ⟨e3, e4, e5, e6, e7⟩ := e1
  rw [e3, e4, e5, e6, e7, e2]
  exact OwC.mEvent (x := ⟨x.type_, x.version, y⟩) w0 w1 v0 v1 v2 q1 q2
set_option maxRecDepth 100000 in
theorem heldEvent_any (x : Event) (us : List Value) (fp : List Nat) (z : Int) (a b : Nat) (w : World) (hz : z = a) (ho : OwC w x.cells us fp) (hf : Lt fp w.heap.size) (hmk : x.mkTop a b) (hb : b ≤ 1099511627776) :
    Calls Tryz.prog 28 #[.agg us.toArray, .int .i64 z] w fun e w' => e = .returned (.int .i64 (b : Nat)) ∧ Below w.heap.size w w' := by
  subst hz
  have ho' := ho
  obtain ⟨A1, c1, A2, c2, f1, f2, rfl, w0, w1, w2, w3, w4, o1, o2, rfl⟩ := ho.oEvent
  have hw1 : Below w.heap.size w (w.alloc (.cells #[.string x.type_, .int .i64 x.version, .int .i64 x.body.sort, .int .i64 x.body.num, .string x.body.text, .slice A1 x.body.names.length c1, .slice A2 x.body.kids.length c2] 46)) := (Below.refl _ _).alloc (Nat.le_refl _) _
  have HO := hide (ho'.oBody.below hw1 hf)
  have HF := hide (hf.up hw1)
  have HB := hide hw1
  have HM := hide hmk
  clear ho ho' o1 o2 hw1 hf hmk
  go_enter Tryz.func28, Tryz.ntmps28
  go_wp2_with fail
  refine (heldTree_any x.body _ _ _ a b _ rfl HO.out HF.out HM.out hb).mono ?_
  rintro e w' ⟨rfl, hb'⟩
  have HB' := hide (HB.out.trans (hb'.mono HB.out.size))
  clear hb'
  go_wp2
  go_ret
  exact ⟨rfl, HB'.out⟩
end Go.Proofs.YtnaecdoeldoipaaGreatDoor
set_option linter.unusedVariables false
set_option linter.unusedSimpArgs false
namespace Go.Proofs.YtnaecdoeldoipaaGreatDoor
open Go.ChangeShapes Go.WideShapes Go.ChangeAt Go.RowKit

theorem eventRead_cnt (s : ByteArray) : (eventRead s).cntTop ≤ 480 := by
  unfold eventRead
  cases h : readE s with
  | none => decide
  | some e =>
    have h1 := (readE_some h).1.2.2.2
    have h2 := tcnt_le e.body 1 h1.1
    have h3 := h1.2
    have h4 := e.body.cnt_eq
    show e.body.cntTop ≤ 480
    rw [Tree.cntTop_eq]
    omega
end Go.Proofs.YtnaecdoeldoipaaGreatDoor
set_option linter.unusedVariables false
set_option linter.unusedSimpArgs false
namespace Go.Proofs.YtnaecdoeldoipaaGreatDoor
open Go.ChangeShapes Go.WideShapes Go.ChangeAt Go.RowKit

theorem rowTouch {fp : List Nat} {w w2 : World} {g : Nat} {e : TypeId} {cs : List Value} (h : Row w g e cs) (ht : Touch fp w w2) (hn : g ∉ fp) : Row w2 g e cs := (ht.block _ h.lt hn).trans h

set_option maxRecDepth 100000 in
set_option maxHeartbeats 4000000 in
theorem lawFnExactEventRead_any (w : World) (s0 : ByteArray) (hs0 : s0.size ≤ maxLen) (ht : Lay w) (hw7 : 5 < w.heap.size) :
    Calls Tryz.prog 6 #[.string s0] w fun e w' => e = .returned (.bool true) ∧ Below w.heap.size w w' := by
  have HTB := hide ht
  clear ht
  have B0 := hide (Below.refl w.heap.size w)
  obtain ⟨r0, hr0⟩ : ∃ r, r = eventRead s0 := ⟨_, rfl⟩
  have HR0 := hide hr0
  clear hr0
  by_cases hz0 : (s0.size : Int) ≤ 1048576
  · skip
    go_enter Tryz.func6, Tryz.ntmps6
    -- boxes of the parameters
    have hcr0 : r0.cntTop ≤ 480 := by rw [HR0.out]; exact eventRead_cnt s0
    go_wp2_with fail
    refine (specEventRead_any s0 _ (by omega)).mono ?_
    rintro e u1 ⟨vw0, fw0, rfl, yw0, zw0, hb1⟩
    have S1 := hide (show w.heap.size ≤ u1.heap.size from by have := hb1.size; simpa only [World.size_alloc, size_setRow] using this)
    have B1 := hide (B0.out.trans (hb1.mono B0.out.size))
    clear hb1
    rw [← HR0.out] at yw0
    have Ow0 := hide yw0
    have Nw0 := hide zw0
    have Lw0 := hide (show ∀ g ∈ fw0, w.heap.size ≤ g ∧ g < u1.heap.size from fun g hg => ⟨by have := (zw0.fr g hg).1; simpa only [World.size_alloc, size_setRow] using this, zw0.lt g hg⟩)
    clear yw0 zw0
    have Tw0 := Ow0.out
    obtain ⟨w0A1, w0c1, w0A2, w0c2, w0f1, w0f2, rfl, w0w0, w0w1, w0w2, w0w3, w0w4, w0o1, w0o2, w0ef⟩ := Tw0.oEvent
    clear Tw0 w0o1 w0o2
    have hAPw0 : Below u1.heap.size u1 (u1.alloc (.cells #[.string r0.type_, .int .i64 r0.version, .int .i64 r0.body.sort, .int .i64 r0.body.num, .string r0.body.text, .slice w0A1 r0.body.names.length w0c1, .slice w0A2 r0.body.kids.length w0c2] 46)) := (Below.refl _ _).alloc (Nat.le_refl _) _
    have BPw0 := hide (B1.out.trans (hAPw0.mono B1.out.size))
    have Ow0 := hide (Ow0.out.below hAPw0 Nw0.out.lt)
    have Nw0 := hide (Nw0.out.below hAPw0 Nw0.out.lt)
    have Pw0 : Row (u1.alloc (.cells #[.string r0.type_, .int .i64 r0.version, .int .i64 r0.body.sort, .int .i64 r0.body.num, .string r0.body.text, .slice w0A1 r0.body.names.length w0c1, .slice w0A2 r0.body.kids.length w0c2] 46)) u1.heap.size 46 [.string r0.type_, .int .i64 r0.version, .int .i64 r0.body.sort, .int .i64 r0.body.num, .string r0.body.text, .slice w0A1 r0.body.names.length w0c1, .slice w0A2 r0.body.kids.length w0c2] := Row.new u1 _ _
    clear hAPw0
    have c1_Pw0_0 := Pw0.cell 0
    have c1_Pw0_1 := Pw0.cell 1
    have c1_Pw0_2 := Pw0.cell 2
    have c1_Pw0_3 := Pw0.cell 3
    have c1_Pw0_4 := Pw0.cell 4
    have c1_Pw0_5 := Pw0.cell 5
    have c1_Pw0_6 := Pw0.cell 6
    have lt1_Pw0 := Pw0.lt
    go_wp2_with fail
    refine (implEventRead_any s0 _ (by omega) (HTB.out.below BPw0.out) (by have := BPw0.out.size; (try simp only [World.size_alloc, size_setRow] at this ⊢); omega)).mono ?_
    rintro e u2 ⟨vg0, fg0, rfl, yg0, zg0, hb2⟩
    clear c1_Pw0_0 c1_Pw0_1 c1_Pw0_2 c1_Pw0_3 c1_Pw0_4 c1_Pw0_5 c1_Pw0_6 lt1_Pw0
    have S2 := hide (show u1.heap.size + 1 ≤ u2.heap.size from by have := hb2.size; simpa only [World.size_alloc, size_setRow] using this)
    have B2 := hide (BPw0.out.trans (hb2.mono BPw0.out.size))
    have Pw0 := Pw0.below hb2 Pw0.lt
    have Ow0 := hide (Ow0.out.below hb2 Nw0.out.lt)
    have Nw0 := hide (Nw0.out.below hb2 Nw0.out.lt)
    clear hb2
    rw [← HR0.out] at yg0
    have Og0 := hide yg0
    have Ng0 := hide zg0
    have Lg0 := hide (show ∀ g ∈ fg0, u1.heap.size + 1 ≤ g ∧ g < u2.heap.size from fun g hg => ⟨by have := (zg0.fr g hg).1; simpa only [World.size_alloc, size_setRow] using this, zg0.lt g hg⟩)
    clear yg0 zg0
    have Tg0 := Og0.out
    obtain ⟨g0A1, g0c1, g0A2, g0c2, g0f1, g0f2, rfl, g0w0, g0w1, g0w2, g0w3, g0w4, g0o1, g0o2, g0ef⟩ := Tg0.oEvent
    clear Tg0 g0o1 g0o2
    have hAPg0 : Below u2.heap.size u2 (u2.alloc (.cells #[.string r0.type_, .int .i64 r0.version, .int .i64 r0.body.sort, .int .i64 r0.body.num, .string r0.body.text, .slice g0A1 r0.body.names.length g0c1, .slice g0A2 r0.body.kids.length g0c2] 46)) := (Below.refl _ _).alloc (Nat.le_refl _) _
    have BPg0 := hide (B2.out.trans (hAPg0.mono B2.out.size))
    have Pw0 := Pw0.below hAPg0 Pw0.lt
    have Ow0 := hide (Ow0.out.below hAPg0 Nw0.out.lt)
    have Nw0 := hide (Nw0.out.below hAPg0 Nw0.out.lt)
    have Og0 := hide (Og0.out.below hAPg0 Ng0.out.lt)
    have Ng0 := hide (Ng0.out.below hAPg0 Ng0.out.lt)
    have Pg0 : Row (u2.alloc (.cells #[.string r0.type_, .int .i64 r0.version, .int .i64 r0.body.sort, .int .i64 r0.body.num, .string r0.body.text, .slice g0A1 r0.body.names.length g0c1, .slice g0A2 r0.body.kids.length g0c2] 46)) u2.heap.size 46 [.string r0.type_, .int .i64 r0.version, .int .i64 r0.body.sort, .int .i64 r0.body.num, .string r0.body.text, .slice g0A1 r0.body.names.length g0c1, .slice g0A2 r0.body.kids.length g0c2] := Row.new u2 _ _
    clear hAPg0
    have c2_Pw0_0 := Pw0.cell 0
    have c2_Pw0_1 := Pw0.cell 1
    have c2_Pw0_2 := Pw0.cell 2
    have c2_Pw0_3 := Pw0.cell 3
    have c2_Pw0_4 := Pw0.cell 4
    have c2_Pw0_5 := Pw0.cell 5
    have c2_Pw0_6 := Pw0.cell 6
    have c2_Pg0_0 := Pg0.cell 0
    have c2_Pg0_1 := Pg0.cell 1
    have c2_Pg0_2 := Pg0.cell 2
    have c2_Pg0_3 := Pg0.cell 3
    have c2_Pg0_4 := Pg0.cell 4
    have c2_Pg0_5 := Pg0.cell 5
    have c2_Pg0_6 := Pg0.cell 6
    have lt2_Pw0 := Pw0.lt
    have lt2_Pg0 := Pg0.lt
    go_wp2_with fail
    refine (eqEvent_any r0 _ _ _ _ _ Og0.out Ow0.out Ng0.out.lt Nw0.out.lt).mono ?_
    rintro e u3 ⟨rfl, hb3⟩
    clear c2_Pw0_0 c2_Pw0_1 c2_Pw0_2 c2_Pw0_3 c2_Pw0_4 c2_Pw0_5 c2_Pw0_6 c2_Pg0_0 c2_Pg0_1 c2_Pg0_2 c2_Pg0_3 c2_Pg0_4 c2_Pg0_5 c2_Pg0_6 lt2_Pw0 lt2_Pg0
    have S3 := hide (show u2.heap.size + 1 ≤ u3.heap.size from by have := hb3.size; simpa only [World.size_alloc, size_setRow] using this)
    have B3 := hide (BPg0.out.trans (hb3.mono BPg0.out.size))
    have Pw0 := Pw0.below hb3 Pw0.lt
    have Pg0 := Pg0.below hb3 Pg0.lt
    have Ow0 := hide (Ow0.out.below hb3 Nw0.out.lt)
    have Nw0 := hide (Nw0.out.below hb3 Nw0.out.lt)
    have Og0 := hide (Og0.out.below hb3 Ng0.out.lt)
    have Ng0 := hide (Ng0.out.below hb3 Ng0.out.lt)
    clear hb3
    have c3_Pw0_0 := Pw0.cell 0
    have c3_Pw0_1 := Pw0.cell 1
    have c3_Pw0_2 := Pw0.cell 2
    have c3_Pw0_3 := Pw0.cell 3
    have c3_Pw0_4 := Pw0.cell 4
    have c3_Pw0_5 := Pw0.cell 5
    have c3_Pw0_6 := Pw0.cell 6
    have c3_Pg0_0 := Pg0.cell 0
    have c3_Pg0_1 := Pg0.cell 1
    have c3_Pg0_2 := Pg0.cell 2
    have c3_Pg0_3 := Pg0.cell 3
    have c3_Pg0_4 := Pg0.cell 4
    have c3_Pg0_5 := Pg0.cell 5
    have c3_Pg0_6 := Pg0.cell 6
    have lt3_Pw0 := Pw0.lt
    have lt3_Pg0 := Pg0.lt
    go_wp2_with fail
    refine (markEvent_any r0 _ fg0 _ _ (1) _ (by omega) Og0.out Ng0.out (by omega)).mono ?_
    rintro e u4 ⟨lg0, rfl, og0, kg0, ht4⟩
    clear c3_Pw0_0 c3_Pw0_1 c3_Pw0_2 c3_Pw0_3 c3_Pw0_4 c3_Pw0_5 c3_Pw0_6 c3_Pg0_0 c3_Pg0_1 c3_Pg0_2 c3_Pg0_3 c3_Pg0_4 c3_Pg0_5 c3_Pg0_6 lt3_Pw0 lt3_Pg0
    have S4 := hide (show u3.heap.size ≤ u4.heap.size from ht4.size)
    have B4 := hide (B3.out.trans (ht4.to_below B3.out.size (fun g hg => by have := Lg0.out g hg; have := S1.out; have := S2.out; have := S3.out; omega)))
    have Pw0 := rowTouch Pw0 ht4 (fun hg => by have := Lg0.out _ hg; have := S1.out; have := S2.out; have := S3.out; omega)
    have Pg0 := rowTouch Pg0 ht4 (fun hg => by have := Lg0.out _ hg; have := S1.out; have := S2.out; have := S3.out; omega)
    have Ow0 := hide (Ow0.out.touch ht4 Nw0.out.lt (fun g hg hg2 => by have := Lw0.out g hg; have := Lg0.out g hg2; have := S1.out; have := S2.out; have := S3.out; omega))
    have Nw0 := hide (ht4.new Nw0.out)
    have Og0 := hide og0
    have Ng0 := hide (ht4.new Ng0.out)
    have Kg0 := hide kg0
    clear og0 kg0 ht4
    have c4_Pw0_0 := Pw0.cell 0
    have c4_Pw0_1 := Pw0.cell 1
    have c4_Pw0_2 := Pw0.cell 2
    have c4_Pw0_3 := Pw0.cell 3
    have c4_Pw0_4 := Pw0.cell 4
    have c4_Pw0_5 := Pw0.cell 5
    have c4_Pw0_6 := Pw0.cell 6
    have c4_Pg0_0 := Pg0.cell 0
    have c4_Pg0_1 := Pg0.cell 1
    have c4_Pg0_2 := Pg0.cell 2
    have c4_Pg0_3 := Pg0.cell 3
    have c4_Pg0_4 := Pg0.cell 4
    have c4_Pg0_5 := Pg0.cell 5
    have c4_Pg0_6 := Pg0.cell 6
    have lt4_Pw0 := Pw0.lt
    have lt4_Pg0 := Pg0.lt
    go_wp2_with fail
    refine (heldEvent_any lg0 _ fg0 _ (1) (1 + r0.cntTop) _ (by omega) Og0.out Ng0.out.lt Kg0.out (by omega)).mono ?_
    rintro e u5 ⟨rfl, hb5⟩
    clear c4_Pw0_0 c4_Pw0_1 c4_Pw0_2 c4_Pw0_3 c4_Pw0_4 c4_Pw0_5 c4_Pw0_6 c4_Pg0_0 c4_Pg0_1 c4_Pg0_2 c4_Pg0_3 c4_Pg0_4 c4_Pg0_5 c4_Pg0_6 lt4_Pw0 lt4_Pg0
    have S5 := hide (show u4.heap.size ≤ u5.heap.size from by have := hb5.size; simpa only [World.size_alloc, size_setRow] using this)
    have B5 := hide (B4.out.trans (hb5.mono B4.out.size))
    have Pw0 := Pw0.below hb5 Pw0.lt
    have Pg0 := Pg0.below hb5 Pg0.lt
    have Ow0 := hide (Ow0.out.below hb5 Nw0.out.lt)
    have Nw0 := hide (Nw0.out.below hb5 Nw0.out.lt)
    have Og0 := hide (Og0.out.below hb5 Ng0.out.lt)
    have Ng0 := hide (Ng0.out.below hb5 Ng0.out.lt)
    clear hb5
    have c5_Pw0_0 := Pw0.cell 0
    have c5_Pw0_1 := Pw0.cell 1
    have c5_Pw0_2 := Pw0.cell 2
    have c5_Pw0_3 := Pw0.cell 3
    have c5_Pw0_4 := Pw0.cell 4
    have c5_Pw0_5 := Pw0.cell 5
    have c5_Pw0_6 := Pw0.cell 6
    have c5_Pg0_0 := Pg0.cell 0
    have c5_Pg0_1 := Pg0.cell 1
    have c5_Pg0_2 := Pg0.cell 2
    have c5_Pg0_3 := Pg0.cell 3
    have c5_Pg0_4 := Pg0.cell 4
    have c5_Pg0_5 := Pg0.cell 5
    have c5_Pg0_6 := Pg0.cell 6
    have lt5_Pw0 := Pw0.lt
    have lt5_Pg0 := Pg0.lt
    go_wp2_with fail
    refine (implEventRead_any s0 _ (by omega) (HTB.out.below B5.out) (by have := B5.out.size; (try simp only [World.size_alloc, size_setRow] at this ⊢); omega)).mono ?_
    rintro e u6 ⟨vh0, fh0, rfl, yh0, zh0, hb6⟩
    clear c5_Pw0_0 c5_Pw0_1 c5_Pw0_2 c5_Pw0_3 c5_Pw0_4 c5_Pw0_5 c5_Pw0_6 c5_Pg0_0 c5_Pg0_1 c5_Pg0_2 c5_Pg0_3 c5_Pg0_4 c5_Pg0_5 c5_Pg0_6 lt5_Pw0 lt5_Pg0
    have S6 := hide (show u5.heap.size ≤ u6.heap.size from by have := hb6.size; simpa only [World.size_alloc, size_setRow] using this)
    have B6 := hide (B5.out.trans (hb6.mono B5.out.size))
    have Pw0 := Pw0.below hb6 Pw0.lt
    have Pg0 := Pg0.below hb6 Pg0.lt
    have Ow0 := hide (Ow0.out.below hb6 Nw0.out.lt)
    have Nw0 := hide (Nw0.out.below hb6 Nw0.out.lt)
    have Og0 := hide (Og0.out.below hb6 Ng0.out.lt)
    have Ng0 := hide (Ng0.out.below hb6 Ng0.out.lt)
    clear hb6
    rw [← HR0.out] at yh0
    have Oh0 := hide yh0
    have Nh0 := hide zh0
    have Lh0 := hide (show ∀ g ∈ fh0, u5.heap.size ≤ g ∧ g < u6.heap.size from fun g hg => ⟨by have := (zh0.fr g hg).1; simpa only [World.size_alloc, size_setRow] using this, zh0.lt g hg⟩)
    clear yh0 zh0
    have Th0 := Oh0.out
    obtain ⟨h0A1, h0c1, h0A2, h0c2, h0f1, h0f2, rfl, h0w0, h0w1, h0w2, h0w3, h0w4, h0o1, h0o2, h0ef⟩ := Th0.oEvent
    clear Th0 h0o1 h0o2
    have hAPh0 : Below u6.heap.size u6 (u6.alloc (.cells #[.string r0.type_, .int .i64 r0.version, .int .i64 r0.body.sort, .int .i64 r0.body.num, .string r0.body.text, .slice h0A1 r0.body.names.length h0c1, .slice h0A2 r0.body.kids.length h0c2] 46)) := (Below.refl _ _).alloc (Nat.le_refl _) _
    have BPh0 := hide (B6.out.trans (hAPh0.mono B6.out.size))
    have Pw0 := Pw0.below hAPh0 Pw0.lt
    have Pg0 := Pg0.below hAPh0 Pg0.lt
    have Ow0 := hide (Ow0.out.below hAPh0 Nw0.out.lt)
    have Nw0 := hide (Nw0.out.below hAPh0 Nw0.out.lt)
    have Og0 := hide (Og0.out.below hAPh0 Ng0.out.lt)
    have Ng0 := hide (Ng0.out.below hAPh0 Ng0.out.lt)
    have Oh0 := hide (Oh0.out.below hAPh0 Nh0.out.lt)
    have Nh0 := hide (Nh0.out.below hAPh0 Nh0.out.lt)
    have Ph0 : Row (u6.alloc (.cells #[.string r0.type_, .int .i64 r0.version, .int .i64 r0.body.sort, .int .i64 r0.body.num, .string r0.body.text, .slice h0A1 r0.body.names.length h0c1, .slice h0A2 r0.body.kids.length h0c2] 46)) u6.heap.size 46 [.string r0.type_, .int .i64 r0.version, .int .i64 r0.body.sort, .int .i64 r0.body.num, .string r0.body.text, .slice h0A1 r0.body.names.length h0c1, .slice h0A2 r0.body.kids.length h0c2] := Row.new u6 _ _
    clear hAPh0
    have c6_Pw0_0 := Pw0.cell 0
    have c6_Pw0_1 := Pw0.cell 1
    have c6_Pw0_2 := Pw0.cell 2
    have c6_Pw0_3 := Pw0.cell 3
    have c6_Pw0_4 := Pw0.cell 4
    have c6_Pw0_5 := Pw0.cell 5
    have c6_Pw0_6 := Pw0.cell 6
    have c6_Pg0_0 := Pg0.cell 0
    have c6_Pg0_1 := Pg0.cell 1
    have c6_Pg0_2 := Pg0.cell 2
    have c6_Pg0_3 := Pg0.cell 3
    have c6_Pg0_4 := Pg0.cell 4
    have c6_Pg0_5 := Pg0.cell 5
    have c6_Pg0_6 := Pg0.cell 6
    have c6_Ph0_0 := Ph0.cell 0
    have c6_Ph0_1 := Ph0.cell 1
    have c6_Ph0_2 := Ph0.cell 2
    have c6_Ph0_3 := Ph0.cell 3
    have c6_Ph0_4 := Ph0.cell 4
    have c6_Ph0_5 := Ph0.cell 5
    have c6_Ph0_6 := Ph0.cell 6
    have lt6_Pw0 := Pw0.lt
    have lt6_Pg0 := Pg0.lt
    have lt6_Ph0 := Ph0.lt
    go_wp2_with fail
    refine (eqEvent_any r0 _ _ _ _ _ Oh0.out Ow0.out Nh0.out.lt Nw0.out.lt).mono ?_
    rintro e u7 ⟨rfl, hb7⟩
    clear c6_Pw0_0 c6_Pw0_1 c6_Pw0_2 c6_Pw0_3 c6_Pw0_4 c6_Pw0_5 c6_Pw0_6 c6_Pg0_0 c6_Pg0_1 c6_Pg0_2 c6_Pg0_3 c6_Pg0_4 c6_Pg0_5 c6_Pg0_6 c6_Ph0_0 c6_Ph0_1 c6_Ph0_2 c6_Ph0_3 c6_Ph0_4 c6_Ph0_5 c6_Ph0_6 lt6_Pw0 lt6_Pg0 lt6_Ph0
    have S7 := hide (show u6.heap.size + 1 ≤ u7.heap.size from by have := hb7.size; simpa only [World.size_alloc, size_setRow] using this)
    have B7 := hide (BPh0.out.trans (hb7.mono BPh0.out.size))
    have Pw0 := Pw0.below hb7 Pw0.lt
    have Pg0 := Pg0.below hb7 Pg0.lt
    have Ph0 := Ph0.below hb7 Ph0.lt
    have Ow0 := hide (Ow0.out.below hb7 Nw0.out.lt)
    have Nw0 := hide (Nw0.out.below hb7 Nw0.out.lt)
    have Og0 := hide (Og0.out.below hb7 Ng0.out.lt)
    have Ng0 := hide (Ng0.out.below hb7 Ng0.out.lt)
    have Oh0 := hide (Oh0.out.below hb7 Nh0.out.lt)
    have Nh0 := hide (Nh0.out.below hb7 Nh0.out.lt)
    clear hb7
    have c7_Pw0_0 := Pw0.cell 0
    have c7_Pw0_1 := Pw0.cell 1
    have c7_Pw0_2 := Pw0.cell 2
    have c7_Pw0_3 := Pw0.cell 3
    have c7_Pw0_4 := Pw0.cell 4
    have c7_Pw0_5 := Pw0.cell 5
    have c7_Pw0_6 := Pw0.cell 6
    have c7_Pg0_0 := Pg0.cell 0
    have c7_Pg0_1 := Pg0.cell 1
    have c7_Pg0_2 := Pg0.cell 2
    have c7_Pg0_3 := Pg0.cell 3
    have c7_Pg0_4 := Pg0.cell 4
    have c7_Pg0_5 := Pg0.cell 5
    have c7_Pg0_6 := Pg0.cell 6
    have c7_Ph0_0 := Ph0.cell 0
    have c7_Ph0_1 := Ph0.cell 1
    have c7_Ph0_2 := Ph0.cell 2
    have c7_Ph0_3 := Ph0.cell 3
    have c7_Ph0_4 := Ph0.cell 4
    have c7_Ph0_5 := Ph0.cell 5
    have c7_Ph0_6 := Ph0.cell 6
    have lt7_Pw0 := Pw0.lt
    have lt7_Pg0 := Pg0.lt
    have lt7_Ph0 := Ph0.lt
    go_wp2_with fail
    refine (heldEvent_any lg0 _ fg0 _ (1) (1 + r0.cntTop) _ (by omega) Og0.out Ng0.out.lt Kg0.out (by omega)).mono ?_
    rintro e u8 ⟨rfl, hb8⟩
    clear c7_Pw0_0 c7_Pw0_1 c7_Pw0_2 c7_Pw0_3 c7_Pw0_4 c7_Pw0_5 c7_Pw0_6 c7_Pg0_0 c7_Pg0_1 c7_Pg0_2 c7_Pg0_3 c7_Pg0_4 c7_Pg0_5 c7_Pg0_6 c7_Ph0_0 c7_Ph0_1 c7_Ph0_2 c7_Ph0_3 c7_Ph0_4 c7_Ph0_5 c7_Ph0_6 lt7_Pw0 lt7_Pg0 lt7_Ph0
    have S8 := hide (show u7.heap.size ≤ u8.heap.size from by have := hb8.size; simpa only [World.size_alloc, size_setRow] using this)
    have B8 := hide (B7.out.trans (hb8.mono B7.out.size))
    have Pw0 := Pw0.below hb8 Pw0.lt
    have Pg0 := Pg0.below hb8 Pg0.lt
    have Ph0 := Ph0.below hb8 Ph0.lt
    have Ow0 := hide (Ow0.out.below hb8 Nw0.out.lt)
    have Nw0 := hide (Nw0.out.below hb8 Nw0.out.lt)
    have Og0 := hide (Og0.out.below hb8 Ng0.out.lt)
    have Ng0 := hide (Ng0.out.below hb8 Ng0.out.lt)
    have Oh0 := hide (Oh0.out.below hb8 Nh0.out.lt)
    have Nh0 := hide (Nh0.out.below hb8 Nh0.out.lt)
    clear hb8
    have c8_Pw0_0 := Pw0.cell 0
    have c8_Pw0_1 := Pw0.cell 1
    have c8_Pw0_2 := Pw0.cell 2
    have c8_Pw0_3 := Pw0.cell 3
    have c8_Pw0_4 := Pw0.cell 4
    have c8_Pw0_5 := Pw0.cell 5
    have c8_Pw0_6 := Pw0.cell 6
    have c8_Pg0_0 := Pg0.cell 0
    have c8_Pg0_1 := Pg0.cell 1
    have c8_Pg0_2 := Pg0.cell 2
    have c8_Pg0_3 := Pg0.cell 3
    have c8_Pg0_4 := Pg0.cell 4
    have c8_Pg0_5 := Pg0.cell 5
    have c8_Pg0_6 := Pg0.cell 6
    have c8_Ph0_0 := Ph0.cell 0
    have c8_Ph0_1 := Ph0.cell 1
    have c8_Ph0_2 := Ph0.cell 2
    have c8_Ph0_3 := Ph0.cell 3
    have c8_Ph0_4 := Ph0.cell 4
    have c8_Ph0_5 := Ph0.cell 5
    have c8_Ph0_6 := Ph0.cell 6
    have lt8_Pw0 := Pw0.lt
    have lt8_Pg0 := Pg0.lt
    have lt8_Ph0 := Ph0.lt
    go_wp2_with fail
    go_ret
    exact ⟨rfl, B8.out⟩
  · have hz0' : (1048576 : Int) < s0.size := by omega
    go_enter Tryz.func6, Tryz.ntmps6
    go_wp2
    go_ret
    exact ⟨rfl, B0.out⟩
end Go.Proofs.YtnaecdoeldoipaaGreatDoor
