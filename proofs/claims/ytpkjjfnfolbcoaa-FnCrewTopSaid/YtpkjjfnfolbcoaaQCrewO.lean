/-
  Whether jobs are ok: the reference's l53Ok and the program's jobsAre.
-/
import Derived.Test.YtpkjjfnfolbcoaaQApp
import Derived.Test.YtpkjjfnfolbcoaaQRead
set_option linter.unusedVariables false
set_option linter.unusedSimpArgs false
namespace Go.Proofs.Ytpkjjfnfolbcoaa
open Go.ChangeShapes Go.WideShapes Go.ChangeAt Go.RowKit

set_option maxRecDepth 100000 in
theorem l53Ok_any (l : List CrewJob) (A : Option Addr) (n c : Nat) (fp : List Nat) (w : World) (h : Ow w (.s 2 l.length (l.flatMap CrewJob.cells)) (.slice A n c) fp) (hf : Lt fp w.heap.size) :
    Calls Try.prog 72 #[.slice A n c] w fun e w' => e = .returned (.bool (tb (jobsOk l))) ∧ Below w.heap.size w w' := by
  obtain ⟨rfl, hc, hm⟩ := h.nlen
  unfold maxLen at hm
  have HO := hide h
  clear h
  by_cases h60 : l.length ≤ 60
  · have HN := hide (fun (i : Nat) (h : i < l.length) (hn : ¬ l[i].fine) => tb_false (p := jobsOk l) (fun hk => hn (hk.2 i h)))
    have HY := hide (fun (ha : ∀ i (h : i < l.length), l[i].fine) => tb_true (p := jobsOk l) ⟨h60, ha⟩)
    have hb60 : ¬ ((60 : Int) < (l.length : Int)) := by omega
    go_enter Try.func72, Try.ntmps72
    go_wp2
    go_loopw [3] (fun i wr => (∃ j : Nat, j ≤ l.length ∧ i = .int .i64 j ∧ ∀ a (h : a < l.length), a < j → l[a].fine) ∧ Below w.heap.size w wr) (fun i _ => l.length - (intOf i).toNat)
    case atStart => exact ⟨⟨0, Nat.zero_le _, rfl, fun a h1 h => absurd h (by omega)⟩, Below.refl _ _⟩
    case round =>
      obtain ⟨⟨j, hj, rfl, ha⟩, hb⟩ := hrel
      have HA := hide ha
      have HB := hide hb
      clear ha hb
      by_cases hlt : j < l.length
      · obtain ⟨g, off, ws, fi, rfl, hg, hfi, hwl, hcs, hov⟩ := (HO.out.below HB.out hf).elem CrewJob.cells_len hlt
        have hbad := hide (HN.out j hlt)
        have hstep := hide (fine_step l j hlt HA.out)
        obtain ⟨A1, c1, f1, rfl, o1, w1, rfl⟩ := hov.oCrewJob
        have p0 := hcs 0 _ rfl
        have p1 := hcs 1 _ rfl
        simp only [Nat.add_zero] at p0
        clear hcs hov o1
        generalize l[j] = x at *
        by_cases h1 : 0 ≤ x.bad
        · have b1 : ¬ (x.bad < 0) := by omega
          by_cases h2 : x.items.length ≤ 40
          · have b2 : ¬ ((40 : Int) < (x.items.length : Int)) := by omega
            have HS := hide (hstep.out ⟨h1, h2⟩)
            clear h1 h2
            go_wp2
            go_roundw
            case rel => exact ⟨⟨j + 1, by omega, by go_num, HS.out⟩, HB.out⟩
            case measure => simp [intOf]; omega
          · have b2 : (40 : Int) < (x.items.length : Int) := by omega
            have HZ := hide (hbad.out (fun hk => h2 hk.2))
            clear h1 h2
            go_wp2
            go_ret
            exact ⟨ret_bool HZ.out.symm, HB.out⟩
        · have b1 : x.bad < 0 := by omega
          have HZ := hide (hbad.out (fun hk => h1 hk.1))
          clear h1
          go_wp2
          go_ret
          exact ⟨ret_bool HZ.out.symm, HB.out⟩
      · obtain rfl : j = l.length := by omega
        have HZ := hide (HY.out (fun i h => HA.out i h h))
        go_wp2
        go_ret
        exact ⟨ret_bool HZ.out.symm, HB.out⟩
  · have HZ := hide (tb_false (p := jobsOk l) (fun hk => h60 hk.1))
    have hb60 : (60 : Int) < (l.length : Int) := by omega
    go_enter Try.func72, Try.ntmps72
    go_wp2
    go_ret
    exact ⟨ret_bool HZ.out.symm, Below.refl _ _⟩

set_option maxRecDepth 100000 in
theorem jobBad_any (x : CrewJob) (us : List Value) (fp : List Nat) (w : World) (h : OwC w x.cells us fp) :
    Calls Try.prog 130 #[.agg us.toArray] w fun e w' => e = .returned (.bool (tb (¬ x.fine))) ∧ Below w.heap.size w w' := by
  obtain ⟨A1, c1, f1, rfl, o1, w1, rfl⟩ := h.oCrewJob
  have hw1 : Below w.heap.size w (w.alloc (.cells #[.slice A1 x.items.length c1, .int .i64 x.bad] 100)) := (Below.refl w.heap.size w).alloc (Nat.le_refl _) _
  have HB := hide hw1
  clear h o1 hw1
  by_cases h1 : 0 ≤ x.bad
  · have b1 : ¬ (x.bad < 0) := by omega
    by_cases h2 : x.items.length ≤ 40
    · have b2 : ¬ ((40 : Int) < (x.items.length : Int)) := by omega
      have HZ := hide (tb_false (p := ¬ x.fine) (fun hk => hk ⟨h1, h2⟩))
      clear h1 h2
      go_enter Try.func130, Try.ntmps130
      go_wp2
      go_ret
      exact ⟨ret_bool HZ.out.symm, HB.out⟩
    · have b2 : (40 : Int) < (x.items.length : Int) := by omega
      have HZ := hide (tb_true (p := ¬ x.fine) (fun hk => h2 hk.2))
      clear h1 h2
      go_enter Try.func130, Try.ntmps130
      go_wp2
      go_ret
      exact ⟨ret_bool HZ.out.symm, HB.out⟩
  · have b1 : x.bad < 0 := by omega
    have HZ := hide (tb_true (p := ¬ x.fine) (fun hk => h1 hk.1))
    clear h1
    go_enter Try.func130, Try.ntmps130
    go_wp2
    go_ret
    exact ⟨ret_bool HZ.out.symm, HB.out⟩

set_option maxRecDepth 100000 in
theorem jobIndex_any (l : List CrewJob) (A : Option Addr) (n c : Nat) (fp : List Nat) (w : World) (h : Ow w (.s 2 l.length (l.flatMap CrewJob.cells)) (.slice A n c) fp) (hf : Lt fp w.heap.size) :
    Calls Try.prog 161 #[.slice A n c, .func (.func 130) #[] #[]] w fun e w' =>
      (∃ z : Int, e = .returned (.int .i64 z) ∧ ((0 : Int) ≤ z ↔ ¬ ∀ i (h : i < l.length), l[i].fine)) ∧ Below w.heap.size w w' := by
  obtain ⟨rfl, hc, hm⟩ := h.nlen
  unfold maxLen at hm
  have HO := hide h
  clear h
  go_enter Try.func161, Try.ntmps161
  go_wp2
  go_loopw [8] (fun i wr => (∃ j : Nat, j ≤ l.length ∧ i = .int .i64 j ∧ ∀ a (h : a < l.length), a < j → l[a].fine) ∧ Below w.heap.size w wr) (fun i _ => l.length - (intOf i).toNat)
  case atStart => exact ⟨⟨0, Nat.zero_le _, rfl, fun a h1 h => absurd h (by omega)⟩, Below.refl _ _⟩
  case round =>
    obtain ⟨⟨j, hj, rfl, ha⟩, hb⟩ := hrel
    have HA := hide ha
    have HB := hide hb
    clear ha hb
    by_cases hlt : j < l.length
    · obtain ⟨g, off, ws, fi, rfl, hg, hfi, hwl, hcs, hov⟩ := (HO.out.below HB.out hf).elem CrewJob.cells_len hlt
      have hbad := hide (fun (hn : ¬ l[j].fine) => show (0 : Int) ≤ (j : Int) ↔ ¬ ∀ i (h : i < l.length), l[i].fine from ⟨fun _ hk => hn (hk j hlt), fun _ => by omega⟩)
      have hstep := hide (fine_step l j hlt HA.out)
      have HOV := hide hov
      obtain ⟨A1, c1, f1, rfl, o1, w1, rfl⟩ := hov.oCrewJob
      have p0 := hcs 0 _ rfl
      have p1 := hcs 1 _ rfl
      simp only [Nat.add_zero] at p0
      clear hcs hov o1
      generalize l[j] = x at *
      go_wp2_with fail
      refine (jobBad_any x _ _ _ HOV.out).mono ?_
      rintro e w2 ⟨rfl, hb2⟩
      have HB2 := hide (HB.out.trans (hb2.mono HB.out.size))
      by_cases hx : x.fine
      · rw [tb_false (p := ¬ x.fine) (fun hk => hk hx)]
        have HS := hide (hstep.out hx)
        clear hx
        go_wp2
        go_roundw
        case rel => exact ⟨⟨j + 1, by omega, by go_num, HS.out⟩, HB2.out⟩
        case measure => simp [intOf]; omega
      · rw [tb_true (p := ¬ x.fine) hx]
        have HS := hide (hbad.out hx)
        clear hx
        go_wp2
        go_ret
        exact ⟨⟨_, rfl, HS.out⟩, HB2.out⟩
    · obtain rfl : j = l.length := by omega
      go_wp2
      go_ret
      exact ⟨⟨-1, rfl, ⟨fun h => absurd h (by omega), fun h => absurd (fun i hi => HA.out i hi hi) h⟩⟩, HB.out⟩

set_option maxRecDepth 100000 in
theorem jobAny_any (l : List CrewJob) (A : Option Addr) (n c : Nat) (fp : List Nat) (w : World) (h : Ow w (.s 2 l.length (l.flatMap CrewJob.cells)) (.slice A n c) fp) (hf : Lt fp w.heap.size) :
    Calls Try.prog 129 #[.slice A n c, .func (.func 130) #[] #[]] w fun e w' =>
      e = .returned (.bool (tb (¬ ∀ i (h : i < l.length), l[i].fine))) ∧ Below w.heap.size w w' := by
  have HO := hide h
  clear h
  go_enter Try.func129, Try.ntmps129
  go_wp2_with fail
  refine (jobIndex_any l _ _ _ _ _ HO.out hf).mono ?_
  rintro e w2 ⟨⟨z, rfl, hz⟩, hb2⟩
  have HB := hide hb2
  clear hb2
  by_cases h0 : 0 ≤ z
  · have HT := hide (tb_true (hz.1 h0))
    clear hz
    go_wp2
    go_ret
    exact ⟨ret_bool (by rw [HT.out]), HB.out⟩
  · have HT := hide (tb_false (fun h => h0 (hz.2 h)))
    clear hz
    go_wp2
    go_ret
    exact ⟨ret_bool (by rw [HT.out]; simpa using h0), HB.out⟩

set_option maxRecDepth 100000 in
theorem jobsAre_any (l : List CrewJob) (A : Option Addr) (n c : Nat) (fp : List Nat) (w : World) (h : Ow w (.s 2 l.length (l.flatMap CrewJob.cells)) (.slice A n c) fp) (hf : Lt fp w.heap.size) :
    Calls Try.prog 78 #[.slice A n c] w fun e w' => e = .returned (.bool (tb (jobsOk l))) ∧ Below w.heap.size w w' := by
  obtain ⟨rfl, hc, hm⟩ := h.nlen
  unfold maxLen at hm
  have HO := hide h
  clear h
  by_cases h60 : l.length ≤ 60
  · have HE := hide (show tb (jobsOk l) = tb (∀ i (h : i < l.length), l[i].fine) from congrArg tb (propext ⟨fun h => h.2, fun h => ⟨h60, h⟩⟩))
    have hb60 : (l.length : Int) ≤ 60 := by omega
    go_enter Try.func78, Try.ntmps78
    go_wp2_with fail
    refine (jobAny_any l _ _ _ _ _ HO.out hf).mono ?_
    rintro e w2 ⟨rfl, hb2⟩
    have HB := hide hb2
    clear hb2
    by_cases hx : ∀ i (h : i < l.length), l[i].fine
    · have HT := hide (tb_true hx)
      rw [tb_false (p := ¬ ∀ i (h : i < l.length), l[i].fine) (fun hk => hk hx)]
      clear hx
      go_wp2
      go_ret
      exact ⟨ret_bool (by rw [HE.out, HT.out]), HB.out⟩
    · have HT := hide (tb_false hx)
      rw [tb_true (p := ¬ ∀ i (h : i < l.length), l[i].fine) hx]
      clear hx
      go_wp2
      go_ret
      exact ⟨ret_bool (by rw [HE.out, HT.out]), HB.out⟩
  · have HZ := hide (tb_false (p := jobsOk l) (fun hk => h60 hk.1))
    have hb60 : ¬ ((l.length : Int) ≤ 60) := by omega
    go_enter Try.func78, Try.ntmps78
    go_wp2
    go_ret
    exact ⟨ret_bool HZ.out.symm, Below.refl _ _⟩
end Go.Proofs.Ytpkjjfnfolbcoaa
