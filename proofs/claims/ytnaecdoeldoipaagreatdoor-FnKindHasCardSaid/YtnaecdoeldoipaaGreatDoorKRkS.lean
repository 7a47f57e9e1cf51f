/-
  Reading schemas from texts: the reference's reader: look, eat, name.
-/
import Derived.Laws.BitsAllLaws
import Derived.BigQuiet
import Derived.Lib.Strings
import Derived.Test.YtnaecdoeldoipaaGreatDoorKFirst
import Derived.Test.YtnaecdoeldoipaaGreatDoorKRead
set_option linter.unusedVariables false
set_option linter.unusedSimpArgs false
namespace Go.Proofs.YtnaecdoeldoipaaGreatDoor
open Go.ChangeShapes Go.WideShapes Go.ChangeAt Go.RowKit

/-- the reference's reader in block g: the text s, of which l is left; it may have gone m past the end, if it is bad -/
def RdK (w : World) (g : Nat) (s : ByteArray) (m : Nat) (l : List UInt8) (bad : Bool) : Prop :=
  ∃ n : Nat, Row w g 75 [.string s, .int .i64 (n : Int), .bool bad] ∧ s.size ≤ 10000 ∧ n ≤ s.size + m ∧ (bad = false → n ≤ s.size) ∧ l = (bl s).drop n
theorem RdK.lt {w : World} {g : Nat} {s : ByteArray} {m : Nat} {l : List UInt8} {bad : Bool} (h : RdK w g s m l bad) : g < w.heap.size := by
  obtain ⟨_, hr, _⟩ := h
  exact hr.lt
theorem RdK.low {w w' : World} {g : Nat} {s : ByteArray} {m : Nat} {l : List UInt8} {bad : Bool} {B : Nat} (h : RdK w g s m l bad) (hb : Below B w w') (hB : g < B) : RdK w' g s m l bad := by
  obtain ⟨n, hr, h⟩ := h
  exact ⟨n, hr.below hb hB, h⟩
theorem RdK.below {w w' : World} {g : Nat} {s : ByteArray} {m : Nat} {l : List UInt8} {bad : Bool} (h : RdK w g s m l bad) (hb : Below w.heap.size w w') : RdK w' g s m l bad := h.low hb h.lt
theorem RdK.drewN {w : World} {g : Nat} {s : ByteArray} {m : Nat} {l : List UInt8} {bad : Bool} (h : RdK w g s m l bad) (n : Nat) : RdK (w.drewN n) g s m l bad := h
theorem RdK.mono {w : World} {g : Nat} {s : ByteArray} {m m' : Nat} {l : List UInt8} {bad : Bool} (h : RdK w g s m l bad) (hm : m ≤ m') : RdK w g s m' l bad := by
  obtain ⟨n, hr, h1, h2, h3⟩ := h
  exact ⟨n, hr, h1, by omega, h3⟩
theorem RdK.cells {w : World} {g : Nat} {s : ByteArray} {m : Nat} {l : List UInt8} {bad : Bool} (h : RdK w g s m l bad) : w.cell? ⟨g, 2, none⟩ = some (.bool bad) ∧ w.frozen? ⟨g, 2, none⟩ = false := by
  obtain ⟨n, hr, _⟩ := h
  exact ⟨hr.cell 2, hr.frozen 2⟩
theorem RdK.setBad {w : World} {g : Nat} {s : ByteArray} {m : Nat} {l : List UInt8} {bad : Bool} (h : RdK w g s m l bad) : RdK (w.setCell ⟨g, 2, none⟩ (.bool true)) g s m l true := by
  obtain ⟨n, hr, h1, h2, h3, h4⟩ := h
  exact ⟨n, hr.set 2 _, h1, h2, (fun h => by cases h), h4⟩
theorem drop_head (s : ByteArray) (n : Nat) (h : n < s.size) : (bl s).drop n = s[n] :: (bl s).drop (n + 1) := by
  rw [List.drop_eq_getElem_cons (by rw [bl_len]; exact h), bl_get]
theorem drop_none (s : ByteArray) (n : Nat) (h : s.size ≤ n) : (bl s).drop n = [] := List.drop_eq_nil_of_le (by rw [bl_len]; exact h)
theorem sub_bl (s : ByteArray) (n m : Nat) : bl (s.extract n m) = ((bl s).drop n).take (m - n) := Lib.extract_data s n m
theorem ne_lists {a b : ByteArray} (h : bl a ≠ bl b) : ¬ (a.toList = b.toList) ∧ (a.toList == b.toList) = false := by
  have h1 : ¬ (a.toList = b.toList) := fun e => h (by rw [Lib.toList_data, Lib.toList_data] at e; exact e)
  exact ⟨h1, by simpa using h1⟩
theorem eq_lists {a b : ByteArray} (h : bl a = bl b) : a.toList = b.toList ∧ (a.toList == b.toList) = true := by
  have h1 : a.toList = b.toList := by rw [Lib.toList_data, Lib.toList_data]; exact h
  exact ⟨h1, by simpa using h1⟩
theorem grown_drewN (w : World) (g n : Nat) : w.grownBy (w.drewN n) (some g) := only_drewN (grown_refl w (some g)) n
set_option maxRecDepth 100000 in
set_option maxHeartbeats 1000000 in
theorem look1_any {s : ByteArray} {m : Nat} {l : List UInt8} {bad : Bool} {g : Nat} {w : World} (h : RdK w g s m l bad) (hm : m ≤ 100) :
    Calls Tryz.prog 104 #[.pointer (some ⟨g, 0, none⟩)] w fun e w' => e = .returned (.int .u8 ((l.headD 0).toNat : Int)) ∧ ∃ q, w' = w.drewN q := by
  obtain ⟨n, hr, h1, h2, h3, rfl⟩ := h
  have r0 := hr.cell 0
  have r1 := hr.cell 1
  have lr := hr.lt
  by_cases hlt : n < s.size
  · have HH := hide (show ((bl s).drop n).headD 0 = s[n] from by rw [drop_head s n hlt]; rfl)
    have hltI : (n : Int) < (s.size : Int) := by omega
    go_enter Tryz.func104, Tryz.ntmps104
    go_wp2
    go_quiet (fail)
    go_wp2
    go_quiet (fail)
    go_wp2
    go_ret
    refine ⟨?_, _, World.drewN_drewN _ _ _⟩
    rw [HH.out]
    rfl
  · have HH := hide (show ((bl s).drop n).headD 0 = 0 from by rw [drop_none s n (by omega)]; rfl)
    have hltI : ¬ (n : Int) < (s.size : Int) := by omega
    go_enter Tryz.func104, Tryz.ntmps104
    go_wp2
    go_quiet (fail)
    go_wp2
    go_ret
    refine ⟨?_, _, rfl⟩
    rw [HH.out]
    rfl
def EatOut (g : Nat) (s : ByteArray) (m : Nat) (u : ByteArray) (l : List UInt8) (bad : Bool) (w : World) (e : Ending) (w' : World) : Prop :=
  ∃ (ok : Bool) (l' : List UInt8), e = .returned (.tuple #[]) ∧ RdK w' g s m l' (bad || !ok) ∧ Eaten (bl u) l ok l' ∧ w.grownBy w' (some g)
set_option maxRecDepth 100000 in
set_option maxHeartbeats 1000000 in
theorem eat1_any {s : ByteArray} {m : Nat} {l : List UInt8} {bad : Bool} {g : Nat} {w : World} (h : RdK w g s m l bad) (hm : m ≤ 100) (u : ByteArray) (hu : 1 ≤ u.size) (hu2 : u.size ≤ 100) :
    Calls Tryz.prog 65 #[.pointer (some ⟨g, 0, none⟩), .string u] w (EatOut g s m u l bad w) := by
  obtain ⟨n, hr, h1, h2, h3, rfl⟩ := h
  have HR := hide hr
  have H3 := hide h3
  have r0 := hr.cell 0
  have r1 := hr.cell 1
  have lr := hr.lt
  have f1 := hr.frozen 1
  have f2 := hr.frozen 2
  have r2 := hr.cell 2
  have HBAD := hide (fun (W : World) (hg : w.grownBy W (some g)) (hrow : Row W g 75 [.string s, .int .i64 (n : Int), .bool true]) (hno : ∀ r, (bl s).drop n ≠ bl u ++ r) => show EatOut g s m u ((bl s).drop n) bad w (.returned (.tuple #[])) W from
    ⟨false, (bl s).drop n, rfl, ⟨n, by simpa using hrow, h1, h2, (fun h => by simp at h), rfl⟩, .inr ⟨rfl, rfl, hno⟩, hg⟩)
  obtain ⟨nu, hnu⟩ : ∃ k : Nat, n + u.size = k := ⟨_, rfl⟩
  have hw1 : IntKind.i64.wrap ((n : Int) + (u.size : Int)) = (nu : Int) := by rw [wrapI _ (by omega) (by omega)]; omega
  clear hr h3
  by_cases hlen : s.size < nu
  · have hno : ∀ r, (bl s).drop n ≠ bl u ++ r := fun r e => by
      have := congrArg List.length e
      rw [List.length_drop, List.length_append, bl_len, bl_len] at this
      omega
    have HNO := hide hno
    have hlI : (s.size : Int) < (nu : Int) := by omega
    have hde : decide ((s.size : Int) < (nu : Int)) = true := by simp; omega
    clear hno
    go_enter Tryz.func65, Tryz.ntmps65
    go_wp2
    go_quiet (fail)
    go_wp2
    go_end0
    exact HBAD.out _ (only_setCell (p := ⟨g, 2, none⟩) (grown_drewN w g _) (.inl rfl) _) ((HR.out.drewN _).set 2 _) HNO.out
  · have hlI : ¬ (s.size : Int) < (nu : Int) := by omega
    have hde : decide ((s.size : Int) < (nu : Int)) = false := by simp; omega
    have hs0 : (0 : Int) ≤ (n : Int) := by omega
    have hs1 : (n : Int) ≤ (nu : Int) := by omega
    have hs2 : (nu : Int) ≤ (s.size : Int) := by omega
    by_cases he : bl (s.extract n nu) = bl u
    · obtain ⟨q1, q2⟩ := eq_lists he
      have HOK := hide (show (bl s).drop n = bl u ++ (bl s).drop nu from by
        have h := sub_bl s n nu
        rw [he] at h
        rw [h]
        have e := List.take_append_drop (nu - n) ((bl s).drop n)
        rw [List.drop_drop, show n + (nu - n) = nu by omega] at e
        exact e.symm)
      clear he
      go_enter Tryz.func65, Tryz.ntmps65
      go_wp2
      go_quiet (fail)
      go_wp2
      go_end0
      exact ⟨true, (bl s).drop nu, rfl, ⟨nu, by simpa using (HR.out.drewN _).set 1 _, h1, by omega, fun h => by omega, rfl⟩, .inl ⟨rfl, HOK.out⟩, only_setCell (p := ⟨g, 1, none⟩) (grown_drewN w g _) (.inl rfl) _⟩
    · obtain ⟨q1, q2⟩ := ne_lists he
      have HNO := hide (show ∀ r, (bl s).drop n ≠ bl u ++ r from fun r e => by
        apply he
        rw [sub_bl, e, show nu - n = (bl u).length by rw [bl_len]; omega, List.take_left])
      clear he
      go_enter Tryz.func65, Tryz.ntmps65
      go_wp2
      go_quiet (fail)
      go_wp2
      go_end0
      exact HBAD.out _ (only_setCell (p := ⟨g, 2, none⟩) (grown_drewN w g _) (.inl rfl) _) ((HR.out.drewN _).set 2 _) HNO.out
def NameOut1 (g : Nat) (s : ByteArray) (m : Nat) (l : List UInt8) (bad : Bool) (w : World) (e : Ending) (w' : World) : Prop :=
  ∃ (x : ByteArray) (l' : List UInt8), e = .returned (.string x) ∧ x.size ≤ 10000 ∧ RdK w' g s m l' bad ∧ Named l x l' ∧ w.grownBy w' (some g)
theorem look_head {s : ByteArray} {n : Nat} (h : n < s.size) : ((bl s).drop n).headD 0 = s[n] := by rw [drop_head s n h]; rfl
theorem look_end {s : ByteArray} {n : Nat} (h : s.size ≤ n) : ((bl s).drop n).headD 0 = 0 := by rw [drop_none s n h]; rfl
/-- a name is what stands up to the first byte that is not of a name -/
theorem named_at {s : ByteArray} {n k : Nat} (hnk : n ≤ k) (hk : k ≤ s.size) (ha : ∀ j (h : j < s.size), n ≤ j → j < k → nameCh s[j] = true) (hz : ∀ h : k < s.size, nameCh s[k] = false) : Named ((bl s).drop n) (s.extract n k) ((bl s).drop k) := by
  have e0 : (bl s).drop n = bl (s.extract n k) ++ (bl s).drop k := by
    rw [sub_bl]
    have e := List.take_append_drop (k - n) ((bl s).drop n)
    rw [List.drop_drop, show n + (k - n) = k by omega] at e
    exact e.symm
  refine ⟨e0, fun x r hx e => ?_⟩
  have hl := congrArg List.length e
  rw [List.length_drop, List.length_append, bl_len, bl_len, List.length_cons] at hl
  have hge : ∀ j, j < (bl x).length → ((bl s).drop n)[j]? = (bl x)[j]? := fun j hj => by rw [e, List.getElem?_append_left hj]
  have hcol : ((bl s).drop n)[x.size]? = some 58 := by
    rw [e, List.getElem?_append_right (by rw [bl_len]; exact Nat.le_refl _), bl_len, Nat.sub_self]
    rfl
  rw [List.getElem?_drop] at hcol
  have hc1 : n + x.size < s.size := by omega
  have hc2 : s[n + x.size] = 58 := by
    rw [List.getElem?_eq_getElem (by rw [bl_len]; exact hc1), bl_get s _ hc1] at hcol
    injection hcol
  have hchars := nameOk_chars hx
  rw [List.all_eq_true] at hchars
  have hle : k ≤ n + x.size := Nat.le_of_not_lt (fun h => by
    have := ha (n + x.size) hc1 (by omega) h
    rw [hc2] at this
    exact absurd this (by decide))
  have hge2 : n + x.size ≤ k := Nat.le_of_not_lt (fun h => by
    have hks : k < s.size := by omega
    have h1 := hz hks
    have h2 := hge (k - n) (by rw [bl_len]; omega)
    rw [List.getElem?_drop, show n + (k - n) = k by omega, List.getElem?_eq_getElem (by rw [bl_len]; exact hks), bl_get s _ hks, List.getElem?_eq_getElem (by rw [bl_len]; omega)] at h2
    injection h2 with h2
    have h3 := hchars _ (List.getElem_mem (l := bl x) (n := k - n) (by rw [bl_len]; omega))
    rw [← h2, h1] at h3
    cases h3)
  obtain rfl : k = n + x.size := by omega
  have hbx : bl (s.extract n (n + x.size)) = bl x := by
    rw [sub_bl, e, show n + x.size - n = (bl x).length by rw [bl_len]; omega, List.take_left]
  refine ⟨bl_inj hbx, ?_⟩
  rw [hbx, e] at e0
  exact (List.append_cancel_left e0).symm
set_option maxRecDepth 100000 in
set_option maxHeartbeats 2000000 in
theorem name1_any {s : ByteArray} {m : Nat} {l : List UInt8} {bad : Bool} {g : Nat} {w : World} (h : RdK w g s m l bad) (hm : m ≤ 100) (hat : ∃ n, n ≤ s.size ∧ w.cell? ⟨g, 1, none⟩ = some (.int .i64 (n : Int))) :
    Calls Tryz.prog 64 #[.pointer (some ⟨g, 0, none⟩)] w (NameOut1 g s m l bad w) := by
  obtain ⟨n, hr, h1, h2, h3, rfl⟩ := h
  have hns : n ≤ s.size := by
    obtain ⟨n', hn', hc⟩ := hat
    have := hr.cell 1
    rw [hc] at this
    simp at this
    omega
  have HR := hide hr
  have r1 := hr.cell 1
  have lr := hr.lt
  have H3 := hide h3
  clear hr hat h3
  go_enter Tryz.func64, Tryz.ntmps64
  go_wp2
  go_loopw [] (fun wr => ∃ k : Nat, n ≤ k ∧ k ≤ s.size ∧ (∀ j (h : j < s.size), n ≤ j → j < k → nameCh s[j] = true) ∧ Row wr g 75 [.string s, .int .i64 (k : Int), .bool bad] ∧ w.grownBy wr (some g)) (fun wr => match wr.cell? ⟨g, 1, none⟩ with | some (.int _ i) => s.size - i.toNat | _ => 0)
  case atStart => exact ⟨n, Nat.le_refl _, hns, fun j h h1 h2 => by omega, HR.out, grown_refl _ _⟩
  case round =>
    obtain ⟨k, hk1, hk2, hka, hrk, hg⟩ := hrel
    have HRk := hide hrk
    have HA := hide hka
    have HG := hide hg
    have hL : RdK wr g s m ((bl s).drop k) bad := ⟨k, hrk, h1, by omega, fun _ => hk2, rfl⟩
    have k1 := hrk.cell 1
    have kf := hrk.frozen 1
    have k0 := hrk.cell 0
    have kl := hrk.lt
    obtain ⟨c, hc⟩ : ∃ c, ((bl s).drop k).headD 0 = c := ⟨_, rfl⟩
    have HL := hide (fun (q : Nat) => show Calls Tryz.prog 104 #[.pointer (some ⟨g, 0, none⟩)] (wr.drewN q) fun e w' => e = .returned (.int .u8 (c.toNat : Int)) ∧ ∃ q, w' = wr.drewN q from
      (look1_any (hL.drewN q) hm).mono (fun e w' ⟨he, q', hw⟩ => ⟨by rw [he, hc], q + q', by rw [hw, World.drewN_drewN]⟩))
    have HL0 := hide (show Calls Tryz.prog 104 #[.pointer (some ⟨g, 0, none⟩)] wr fun e w' => e = .returned (.int .u8 (c.toNat : Int)) ∧ ∃ q, w' = wr.drewN q from
      (look1_any hL hm).mono (fun e w' ⟨he, q', hw⟩ => ⟨by rw [he, hc], q', hw⟩))
    have HC := hide (fun (h : k < s.size) => show s[k] = c from (look_head h).symm.trans hc)
    have HC0 := hide (fun (h : s.size ≤ k) => show c = 0 from hc.symm.trans (look_end h))
    have hcl := c.toNat_lt
    clear hrk hka hg hL hc
    by_cases hyes : nameCh c = true
    · have hks : k < s.size := Nat.lt_of_not_le (fun h => by rw [HC0.out h] at hyes; exact absurd hyes (by decide))
      have HYES := hide (show ∀ j (h : j < s.size), n ≤ j → j < k + 1 → nameCh s[j] = true from fun j h hj1 hj2 => by
        by_cases e : j < k
        · exact HA.out j h hj1 e
        · obtain rfl : j = k := by omega
          rw [HC.out h]; exact hyes)
      have hor : (97 ≤ (c.toNat : Int) ∧ (c.toNat : Int) ≤ 122) ∨ (¬ (97 ≤ (c.toNat : Int)) ∧ 48 ≤ (c.toNat : Int) ∧ (c.toNat : Int) ≤ 57) := by
        simp only [nameCh, Bool.or_eq_true, Bool.and_eq_true, decide_eq_true_eq] at hyes
        omega
      clear hyes HC HC0
      rcases hor with ⟨a1, a2⟩ | ⟨a1, b1, b2⟩
      all_goals
        go_wp2_with (first | (go_at_call 104; (first | refine HL0.out.mono ?_ | refine (HL.out _).mono ?_); rintro e w2 ⟨rfl, q2, rfl⟩) | fail)
        have hrow := (HRk.out.drewN q2).set 1 (.int .i64 ((k : Int) + 1))
        have e1 := hrow.cell 1
        simp only [List.set_cons_succ, List.set_cons_zero, List.getElem?_cons_succ, List.getElem?_cons_zero] at e1
        refine ⟨⟨k + 1, by omega, by omega, HYES.out, by rw [show ((k + 1 : Nat) : Int) = (k : Int) + 1 by omega]; exact hrow, only_setCell (p := ⟨g, 1, none⟩) (only_drewN HG.out _) (.inl rfl) _⟩, ?_⟩
        rw [e1, k1]
        show s.size - ((k : Int) + 1).toNat < s.size - (k : Int).toNat
        omega
    · have HNO := hide (show ∀ h : k < s.size, nameCh s[k] = false from fun h => by rw [HC.out h]; simpa using hyes)
      have hor : (97 ≤ (c.toNat : Int) ∧ ¬ ((c.toNat : Int) ≤ 122) ∧ 48 ≤ (c.toNat : Int) ∧ ¬ ((c.toNat : Int) ≤ 57)) ∨ (¬ (97 ≤ (c.toNat : Int)) ∧ 48 ≤ (c.toNat : Int) ∧ ¬ ((c.toNat : Int) ≤ 57)) ∨ (¬ (97 ≤ (c.toNat : Int)) ∧ ¬ (48 ≤ (c.toNat : Int))) := by
        simp only [nameCh, Bool.or_eq_true, Bool.and_eq_true, decide_eq_true_eq] at hyes
        omega
      have hs0 : (0 : Int) ≤ (n : Int) := by omega
      have hs1 : (n : Int) ≤ (k : Int) := by omega
      have hs2 : (k : Int) ≤ (s.size : Int) := by omega
      clear hyes HC HC0
      rcases hor with ⟨a1, a2, b1, b2⟩ | ⟨a1, b1, b2⟩ | ⟨a1, b1⟩
      all_goals
        go_wp2_with (first | (go_at_call 104; (first | refine HL0.out.mono ?_ | refine (HL.out _).mono ?_); rintro e w2 ⟨rfl, q2, rfl⟩) | fail)
        go_quiet (fail)
        go_wp2
        go_ret
        exact ⟨s.extract n k, (bl s).drop k, rfl, by rw [ByteArray.size_extract]; omega, ⟨k, HRk.out, h1, by omega, fun _ => hk2, rfl⟩, named_at hk1 hk2 HA.out HNO.out, only_drewN (only_drewN HG.out _) _⟩
end Go.Proofs.YtnaecdoeldoipaaGreatDoor
