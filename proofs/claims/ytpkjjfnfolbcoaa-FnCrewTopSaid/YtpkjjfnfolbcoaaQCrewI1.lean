/-
  What the program asks of a world of a crew: small functions.
-/
import Derived.Deep.RegionHeld3
import Derived.Laws.CopyOwn
import Derived.Test.YtpkjjfnfolbcoaaQCrewW3
set_option linter.unusedVariables false
set_option linter.unusedSimpArgs false
namespace Go.Proofs.Ytpkjjfnfolbcoaa
open Go.ChangeShapes Go.WideShapes Go.ChangeAt Go.RowKit

theorem beqf' {a b : Int} (h : ¬ a = b) : (a == b) = false := beq_eq_false_iff_ne.2 h
theorem beqt' {a b : Int} (h : a = b) : (a == b) = true := by simpa using h
theorem bnet' {a b : Int} (h : ¬ a = b) : (a != b) = true := by simpa using h
theorem bnef' {a b : Int} (h : a = b) : (a != b) = false := by simpa using h
set_option maxRecDepth 100000 in
theorem endNot_any (y : CrewHand) (us : List Value) (fp : List Nat) (w : World) (h : OwC w y.cells us fp) :
    Calls Try.prog 122 #[.agg us.toArray] w fun e w' => e = .returned (.bool (tb (¬ (y.state = 3)))) ∧ Below w.heap.size w w' := by
  obtain ⟨rfl, -, -, -⟩ := h.oCrewHand
  have HB := hide (show Below w.heap.size w (w.alloc (.cells #[.int .i64 y.state, .int .i64 y.job] 88)) from (Below.refl _ _).alloc (Nat.le_refl _) _)
  clear h
  by_cases hs : y.state = 3
  · have HZ := hide (tb_false (p := ¬ (y.state = 3)) (fun h => h hs))
    have r1 := bnef' hs
    clear hs
    go_enter Try.func122, Try.ntmps122
    go_wp2
    go_ret
    exact ⟨ret_bool HZ.out.symm, HB.out⟩
  · have HZ := hide (tb_true hs)
    have r1 := bnet' hs
    clear hs
    go_enter Try.func122, Try.ntmps122
    go_wp2
    go_ret
    exact ⟨ret_bool HZ.out.symm, HB.out⟩
set_option maxRecDepth 100000 in
theorem endNotIndex_any (l : List CrewHand) (A : Option Addr) (n c : Nat) (fp : List Nat) (w : World) (h : Ow w (.s 2 l.length (l.flatMap CrewHand.cells)) (.slice A n c) fp) (hf : Lt fp w.heap.size) :
    Calls Try.prog 158 #[.slice A n c, .func (.func 122) #[] #[]] w fun e w' => (∃ z : Int, e = .returned (.int .i64 z) ∧ ((0 : Int) ≤ z ↔ ∃ i, ∃ h : i < l.length, (fun y : CrewHand => ¬ (y.state = 3)) l[i])) ∧ Below w.heap.size w w' := by
  obtain ⟨rfl, hc, hm⟩ := h.nlen
  unfold maxLen at hm
  have HO := hide h
  clear h
  go_enter Try.func158, Try.ntmps158
  go_wp2
  go_loopw [8] (fun i wr => (∃ j : Nat, j ≤ l.length ∧ i = .int .i64 j ∧ ∀ a (h : a < l.length), a < j → ¬ (fun y : CrewHand => ¬ (y.state = 3)) l[a]) ∧ Below w.heap.size w wr) (fun i _ => l.length - (intOf i).toNat)
  case atStart => exact ⟨⟨0, Nat.zero_le _, rfl, fun a h1 h => absurd h (by omega)⟩, Below.refl _ _⟩
  case round =>
    obtain ⟨⟨j, hj, rfl, ha⟩, hb⟩ := hrel
    have HA := hide ha
    have HB := hide hb
    clear ha hb
    by_cases hlt : j < l.length
    · obtain ⟨g, off, ws, fi, rfl, hg, hfi, hwl, hcs, hov⟩ := (HO.out.below HB.out hf).elem CrewHand.cells_len hlt
      have HC := hide (fun (W : World) (hb : Below wr.heap.size wr W) => show Calls Try.prog 122 #[.agg ws.toArray] W (fun e w' => e = .returned (.bool (tb ((fun y : CrewHand => ¬ (y.state = 3)) l[j]))) ∧ Below W.heap.size W w') from endNot_any l[j] ws fi W (hov.below hb (fun b hbm => Nat.lt_of_lt_of_le (hf b (hfi hbm)) HB.out.size)))
      obtain ⟨rfl, -, -, -⟩ := hov.oCrewHand
      have p0 := hcs 0 _ rfl
      have p1 := hcs 1 _ rfl
      simp only [Nat.add_zero] at p0
      clear hcs hov
      have hgl : g < wr.heap.size := Nat.lt_of_lt_of_le (hf g hg) HB.out.size
      have hyes := hide (fun (hp : (fun y : CrewHand => ¬ (y.state = 3)) l[j]) => show (0 : Int) ≤ (j : Int) ↔ ∃ i, ∃ h : i < l.length, (fun y : CrewHand => ¬ (y.state = 3)) l[i] from ⟨fun _ => ⟨j, hlt, hp⟩, fun _ => by omega⟩)
      have hstep := hide (all_step (P := fun y => ¬ (fun y : CrewHand => ¬ (y.state = 3)) y) l j hlt HA.out)
      generalize l[j] = y at *
      go_wp2_with fail
      refine (HC.out _ (Below.refl _ _)).mono ?_
      rintro e w2 ⟨rfl, hb2⟩
      have HB2 := hide (HB.out.trans (hb2.mono HB.out.size))
      by_cases hx : (fun y : CrewHand => ¬ (y.state = 3)) y
      · rw [tb_true hx]
        have HS := hide (hyes.out hx)
        clear hx
        go_wp2
        go_ret
        exact ⟨⟨_, rfl, HS.out⟩, HB2.out⟩
      · rw [tb_false hx]
        have HS := hide (hstep.out hx)
        clear hx
        go_wp2
        go_roundw
        case rel => exact ⟨⟨j + 1, by omega, by go_num, HS.out⟩, HB2.out⟩
        case measure => simp [intOf]; omega
    · obtain rfl : j = l.length := by omega
      go_wp2
      go_ret
      exact ⟨⟨-1, rfl, ⟨fun h => absurd h (by omega), fun ⟨i, hi, hp⟩ => absurd hp (HA.out i hi hi)⟩⟩, HB.out⟩
set_option maxRecDepth 100000 in
theorem endNotAny_any (l : List CrewHand) (A : Option Addr) (n c : Nat) (fp : List Nat) (w : World) (h : Ow w (.s 2 l.length (l.flatMap CrewHand.cells)) (.slice A n c) fp) (hf : Lt fp w.heap.size) :
    Calls Try.prog 121 #[.slice A n c, .func (.func 122) #[] #[]] w fun e w' => e = .returned (.bool (tb (∃ y ∈ l, (fun y : CrewHand => ¬ (y.state = 3)) y))) ∧ Below w.heap.size w w' := by
  have HC := hide (endNotIndex_any l A n c fp w h hf)
  have HE := hide (show (∃ i, ∃ h : i < l.length, (fun y : CrewHand => ¬ (y.state = 3)) l[i]) ↔ ∃ y ∈ l, (fun y : CrewHand => ¬ (y.state = 3)) y from ⟨fun ⟨i, hi, hp⟩ => ⟨_, List.getElem_mem hi, hp⟩, fun ⟨y, hy, hp⟩ => by obtain ⟨i, hi, rfl⟩ := List.getElem_of_mem hy; exact ⟨i, hi, hp⟩⟩)
  clear h
  go_enter Try.func121, Try.ntmps121
  go_wp2_with fail
  refine HC.out.mono ?_
  rintro e w2 ⟨⟨z, rfl, hz⟩, hb2⟩
  have HB := hide hb2
  clear hb2
  by_cases h0 : 0 ≤ z
  · have HT := hide (tb_true (HE.out.1 (hz.1 h0)))
    clear hz
    go_wp2
    go_ret
    exact ⟨ret_bool (by rw [HT.out]), HB.out⟩
  · have HT := hide (tb_false (fun h => h0 (hz.2 (HE.out.2 h))))
    clear hz
    go_wp2
    go_ret
    exact ⟨ret_bool (by rw [HT.out]; simpa using h0), HB.out⟩
set_option maxRecDepth 100000 in
theorem haveEnded_any (x : CrewWorld) (us : List Value) (fp : List Nat) (b : Nat) (w : World) (hb : Row w b 30 us) (ho : OwC w x.cells us fp) (hf : Lt fp w.heap.size) :
    Calls Try.prog 63 #[.pointer (some ⟨b, 0, none⟩)] w fun e w' => e = .returned (.bool (tb x.allDone)) ∧ Below w.heap.size w w' := by
  have HO := hide ho
  have HF := hide hf
  obtain ⟨A1, c1, A2, c2, A3, c3, A4, c4, A5, c5, A6, c6, A7, c7, f1, f2, f3, f4, f5, f6, f7, rfl, wjobs, wworkers, wwindow, wnext, wreader, o1, o2, wcloser, o3, wkeeper, o4, wdue, o5, wuser, o6, wroom, o7, wops, rfl⟩ := ho.oCrewWorld
  have O2 := hide o2
  have l2 := hf.right.left
  obtain ⟨-, n2, m2⟩ := o2.nlen
  unfold maxLen at m2
  have HX := hide hb
  clear ho hb o1 o2 o3 o4 o5 o6 o7
  have x6 := HX.out.cell 6
  have xl := HX.out.lt
  go_enter Try.func63, Try.ntmps63
  have HC := hide (endNotAny_any x.hands A2 _ c2 f2 w O2.out l2)
  by_cases hs : x.allDone
  case' pos => have HZ := hide (tb_true hs)
  case' pos => rw [tb_false (p := ∃ y ∈ x.hands, ¬ (y.state = 3)) (fun ⟨y, hy, hp⟩ => hp (hs y hy))] at HC
  case' neg => have HZ := hide (tb_false hs)
  case' neg => rw [tb_true (p := ∃ y ∈ x.hands, ¬ (y.state = 3)) (Classical.byContradiction (fun h => hs (fun y hy => Classical.byContradiction (fun hp => h ⟨y, hy, hp⟩))))] at HC
  all_goals
    clear hs
    go_wp2_with fail
    refine HC.out.mono ?_
    rintro e w2 ⟨rfl, hb2⟩
    go_wp2
    go_ret
    exact ⟨ret_bool HZ.out.symm, hb2⟩
set_option maxRecDepth 100000 in
set_option maxHeartbeats 1000000 in
theorem hasDue_any (x : CrewWorld) (us : List Value) (fp : List Nat) (b : Nat) (w : World) (hb : Row w b 30 us) (ho : OwC w x.cells us fp) (hf : Lt fp w.heap.size) (hfm : x.Form) :
    Calls Try.prog 119 #[.pointer (some ⟨b, 0, none⟩)] w fun e w' => e = .returned (.bool (tb x.dueIn)) ∧ Below w.heap.size w w' := by
  obtain ⟨k, hk, hmod, hke, hw0⟩ := due_at hfm
  have HD := hide (dueIn_at hk hke)
  clear hke hfm
  have HO := hide ho
  have HF := hide hf
  obtain ⟨A1, c1, A2, c2, A3, c3, A4, c4, A5, c5, A6, c6, A7, c7, f1, f2, f3, f4, f5, f6, f7, rfl, wjobs, wworkers, wwindow, wnext, wreader, o1, o2, wcloser, o3, wkeeper, o4, wdue, o5, wuser, o6, wroom, o7, wops, rfl⟩ := ho.oCrewWorld
  have O4 := hide o4
  have l4 := hf.right.right.right.left
  obtain ⟨-, n4, m4⟩ := o4.nlen
  unfold maxLen at m4
  have HX := hide hb
  clear ho hb o1 o2 o3 o4 o5 o6 o7
  have x2 := HX.out.cell 2
  have x10 := HX.out.cell 10
  have x11 := HX.out.cell 11
  have xl := HX.out.lt
  go_enter Try.func119, Try.ntmps119
  obtain ⟨g, off, rfl, hg, hcell, -⟩ := ints_at O4.out hk
  have hgl := l4 g hg
  have HRE := hide (show (x.ring[k] == x.due) = tb x.dueIn from by
    by_cases h : x.ring[k] = x.due
    · rw [tb_true (HD.out.2 h)]; simpa using h
    · rw [tb_false (fun e => h (HD.out.1 e))]; simpa using h)
  generalize x.ring[k] = y at *
  have hki : (k : Int) < (x.ring.length : Int) := by omega
  have hk0 : (0 : Int) ≤ (k : Int) := by omega
  go_wp2
  go_quiet (fail)
  go_wp2
  go_ret
  exact ⟨ret_bool HRE.out, below_drewN (Below.refl _ _) _⟩
set_option maxRecDepth 100000 in
theorem isStopped_any (x : CrewWorld) (us : List Value) (fp : List Nat) (b : Nat) (w : World) (hb : Row w b 30 us) (ho : OwC w x.cells us fp) (hf : Lt fp w.heap.size) (hfm : x.Form) :
    Calls Try.prog 156 #[.pointer (some ⟨b, 0, none⟩)] w fun e w' => e = .returned (.bool (x.sh 3 == 1)) ∧ w' = w := by
  have h4 : 3 < x.shut.length := by rw [hfm.shut]; omega
  clear hfm
  have HO := hide ho
  have HF := hide hf
  obtain ⟨A1, c1, A2, c2, A3, c3, A4, c4, A5, c5, A6, c6, A7, c7, f1, f2, f3, f4, f5, f6, f7, rfl, wjobs, wworkers, wwindow, wnext, wreader, o1, o2, wcloser, o3, wkeeper, o4, wdue, o5, wuser, o6, wroom, o7, wops, rfl⟩ := ho.oCrewWorld
  have O7 := hide o7
  have l7 := hf.right.right.right.right.right.right
  obtain ⟨-, n7, m7⟩ := o7.nlen
  unfold maxLen at m7
  have HX := hide hb
  clear ho hb o1 o2 o3 o4 o5 o6 o7
  have x16 := HX.out.cell 16
  have xl := HX.out.lt
  go_enter Try.func156, Try.ntmps156
  obtain ⟨g, off, rfl, hg, hcell, -⟩ := ints_at O7.out h4
  have hgl := l7 g hg
  have HRE := hide (show (x.shut[3] == 1) = (x.sh 3 == 1) from by unfold CrewWorld.sh; rw [List.getElem?_eq_getElem h4]; rfl)
  generalize x.shut[3] = y at *
  have h4i : (3 : Int) < (x.shut.length : Int) := by omega
  go_wp2
  go_ret
  exact ⟨ret_bool HRE.out, rfl⟩
theorem bit_any (v : Bool) (w : World) : Calls Try.prog 123 #[.bool v] w fun e w' => e = .returned (.int .i64 (if v = true then 1 else 0)) ∧ w' = w := by
  cases v
  all_goals
    go_enter Try.func123, Try.ntmps123
    go_wp2
    go_ret
    exact ⟨rfl, rfl⟩
end Go.Proofs.Ytpkjjfnfolbcoaa
