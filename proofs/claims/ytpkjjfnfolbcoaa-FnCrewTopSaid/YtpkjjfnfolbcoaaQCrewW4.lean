/-
  Whether the jobs of a crew are where they must be: the reference.
-/
import Derived.Laws.Tables
import Derived.BigRegion
import Derived.Test.YtpkjjfnfolbcoaaQCrewW3
set_option linter.unusedVariables false
set_option linter.unusedSimpArgs false
namespace Go.Proofs.Ytpkjjfnfolbcoaa
open Go.ChangeShapes Go.WideShapes Go.ChangeAt Go.RowKit

theorem l6In_b {n lo hi : Int} {w : World} {b : Bool} (hb : tb (lo ≤ n ∧ n ≤ hi) = b) :
    Calls Try.prog 67 #[.int .i64 n, .int .i64 lo, .int .i64 hi] w fun e w' => e = .returned (.bool b) ∧ w' = w :=
  (l6In_any n lo hi w).mono (fun e w' ⟨he, hw⟩ => ⟨by rw [he, hb], hw.symm⟩)
theorem nodup_idx {l : List Int} : l.Nodup ↔ ∀ a (h : a < l.length) b (hb : b < a), l[a] ≠ l[b]'(by omega) := by
  unfold List.Nodup
  rw [List.pairwise_iff_getElem]
  exact ⟨fun h a ha b hb e => h b a (by omega) ha hb e.symm, fun h i j hi hj hij e => h j hj i hij e.symm⟩
theorem tmod_pos {a b : Int} (h : 0 ≤ a) : Int.tmod a b = a % b := Int.tmod_eq_emod_of_nonneg h
theorem places_len {x : CrewWorld} (h : x.Form) : x.places.length ≤ 41 := by
  have h1 := h.queue
  have h2 := h.results
  have h3 := h.hands
  have h4 := h.ring
  have h5 := h.start
  have h6 := handJobs_len x.hands
  have h7 := List.length_filter_le (fun j => decide ((0 : Int) ≤ j)) x.ring
  have h8 : x.sent.length ≤ 1 := by unfold CrewWorld.sent; split <;> simp
  unfold CrewWorld.places
  simp only [List.length_append]
  unfold crewOk at h5
  omega
theorem info_crew : (Try.prog.info? 30).map (·.size) = some 18 := by kernel_rfl
theorem dec_false {p : Prop} [Decidable p] (h : ¬ p) : decide p = false := by simpa using h
theorem dec_true {p : Prop} [Decidable p] (h : p) : decide p = true := by simpa using h
set_option maxRecDepth 100000 in
set_option maxHeartbeats 8000000 in
theorem l51Jobs_any (x : CrewWorld) (us : List Value) (fp : List Nat) (w : World) (ho : OwC w x.cells us fp) (hf : Lt fp w.heap.size) (hfm : x.Form) (hgl : x.got.length ≤ 1048576) :
    Calls Try.prog 56 #[.agg us.toArray] w fun e w' => e = .returned (.bool (tb x.Placed)) ∧ Below w.heap.size w w' := by
  have HFM := hide hfm
  clear hfm
  have HO := hide ho
  have HF := hide hf
  obtain ⟨A1, c1, A2, c2, A3, c3, A4, c4, A5, c5, A6, c6, A7, c7, f1, f2, f3, f4, f5, f6, f7, rfl, wjobs, wworkers, wwindow, wnext, wreader, o1, o2, wcloser, o3, wkeeper, o4, wdue, o5, wuser, o6, wroom, o7, wops, rfl⟩ := ho.oCrewWorld
  clear ho
  go_enter Try.func56, Try.ntmps56
  go_upto_region 1 with fail
  generalize hw1 : w.alloc _ = w1
  have hb0 : Below w.heap.size w w1 := by rw [← hw1]; exact (Below.refl _ _).alloc (Nat.le_refl _) _
  have HX := hide (show Row w1 w.heap.size 30 [.int .i64 x.jobs, .int .i64 x.workers, .int .i64 x.window, .int .i64 x.next, .int .i64 x.reader, .slice A1 x.queue.length c1, .slice A2 x.hands.length c2, .int .i64 x.closer, .slice A3 x.results.length c3, .int .i64 x.keeper, .slice A4 x.ring.length c4, .int .i64 x.due, .slice A5 x.out.length c5, .int .i64 x.user, .slice A6 x.got.length c6, .int .i64 x.room, .slice A7 x.shut.length c7, .int .i64 x.ops] from by rw [← hw1]; exact Row.new w _ _)
  have HB := hide hb0
  have HOW := hide (HO.out.below hb0 hf)
  have HFW := hide (hf.up hb0)
  have O4 := hide (o4.below hb0 hf.right.right.right.left)
  have l4 := hf.right.right.right.left.up hb0
  obtain ⟨-, n4, m4⟩ := o4.nlen
  unfold maxLen at m4
  have O5 := hide (o5.below hb0 hf.right.right.right.right.left)
  have l5 := hf.right.right.right.right.left.up hb0
  obtain ⟨-, n5, m5⟩ := o5.nlen
  unfold maxLen at m5
  have O6 := hide (o6.below hb0 hf.right.right.right.right.right.left)
  have l6 := hf.right.right.right.right.right.left.up hb0
  obtain ⟨-, n6, m6⟩ := o6.nlen
  unfold maxLen at m6
  have O7 := hide (o7.below hb0 hf.right.right.right.right.right.right)
  have l7 := hf.right.right.right.right.right.right.up hb0
  obtain ⟨-, n7, m7⟩ := o7.nlen
  unfold maxLen at m7
  clear hw1 hb0 HO o1 o2 o3 o4 o5 o6 o7
  have x2 := HX.out.cell 2
  have x3 := HX.out.cell 3
  have x9 := HX.out.cell 9
  have x10 := HX.out.cell 10
  have x11 := HX.out.cell 11
  have x12 := HX.out.cell 12
  have x14 := HX.out.cell 14
  have x15 := HX.out.cell 15
  have x16 := HX.out.cell 16
  have xl := HX.out.lt
  have HNO := hide (fun (h : ¬ x.Placed) => show false = tb x.Placed from (tb_false h).symm)
  have hnx := HFM.out.next
  have hjj := HFM.out.start.1
  have hww := HFM.out.start.2.2
  have hdu := HFM.out.due
  have hrm := HFM.out.room
  have hpl := places_len HFM.out
  have HC := hide (l51Places_any x _ _ w1 HOW.out HFW.out HFM.out)
  go_wp2_with (first | (refine wpList_load_row rfl 30 _ rfl w.heap.size rfl 30 ([.int .i64 x.jobs, .int .i64 x.workers, .int .i64 x.window, .int .i64 x.next, .int .i64 x.reader, .slice A1 x.queue.length c1, .slice A2 x.hands.length c2, .int .i64 x.closer, .slice A3 x.results.length c3, .int .i64 x.keeper, .slice A4 x.ring.length c4, .int .i64 x.due, .slice A5 x.out.length c5, .int .i64 x.user, .slice A6 x.got.length c6, .int .i64 x.room, .slice A7 x.shut.length c7, .int .i64 x.ops] : List Value).toArray (0, 0) _ HX.out Try.underlying30 rfl info_crew ?_) | fail)
  refine HC.out.mono ?_
  rintro e w2 ⟨PA, pc, pq, rfl, hop, hnp, hbp⟩
  have HX2 := hide (HX.out.below hbp HX.out.lt)
  have HPO := hide hop
  have HPL := hide hnp.lt
  have HB2 := hide (HB.out.trans (hbp.mono HB.out.size))
  have R4 := hide (O4.out.below hbp l4)
  have R5 := hide (O5.out.below hbp l5)
  have R6 := hide (O6.out.below hbp l6)
  have R7 := hide (O7.out.below hbp l7)
  have k4 := hide (l4.up hbp)
  have k5 := hide (l5.up hbp)
  have k6 := hide (l6.up hbp)
  have k7 := hide (l7.up hbp)
  obtain ⟨l, hl⟩ : ∃ l, l = x.places := ⟨_, rfl⟩
  rw [← hl] at HPO hpl ⊢
  have HL := hide hl
  clear hl hop hnp hbp HX HB HOW HFW HC O4 O5 O6 O7 l4 l5 l6 l7 x2 x3 x9 x10 x11 x12 x14 x15 x16 xl
  have x3 := HX2.out.cell 3
  have x11 := HX2.out.cell 11
  have xl := HX2.out.lt
  have hwn : IntKind.i64.wrap (x.next - 1) = x.next - 1 := wrapI _ (by omega) (by omega)
  go_wp2_with fail
  go_loopw [4] (fun s wr => (∃ i : Nat, i ≤ l.length ∧ s = .int .i64 i ∧ (∀ a (h : a < l.length), a < i → x.due ≤ l[a] ∧ l[a] ≤ x.next - 1) ∧ (∀ a (h : a < l.length) b (hb : b < a), a < i → l[a] ≠ l[b]'(by omega))) ∧ Below w2.heap.size w2 wr) (fun s _ => l.length - (intOf s).toNat)
  case atStart => exact ⟨⟨0, Nat.zero_le _, rfl, fun a h1 h => absurd h (by omega), fun a h1 b hb h => absurd h (by omega)⟩, Below.refl _ _⟩
  case round =>
    obtain ⟨⟨i, hi, rfl, hin, hdi⟩, hb⟩ := hrel
    obtain ⟨w3, rfl⟩ : ∃ W, W = wr := ⟨_, rfl⟩
    have HIN0 := hide hin
    have HDI := hide hdi
    have HBR := hide hb
    have HXR := hide (HX2.out.below hb HX2.out.lt)
    have HPR := hide (HPO.out.below hb HPL.out)
    have hsz := hb.size
    clear hin hdi hb x3 x11 xl
    have x3 := HXR.out.cell 3
    have x11 := HXR.out.cell 11
    have xl := HXR.out.lt
    by_cases hlt : i < l.length
    · have hii : (i : Int) < (l.length : Int) := by omega
      have hi0 : (0 : Int) ≤ (i : Int) := by omega
      obtain ⟨g, off, rfl, hg, hcell, -⟩ := ints_at HPR.out hlt
      have hgl : g < w3.heap.size := Nat.lt_of_lt_of_le (HPL.out g hg) hsz
      by_cases hbd : x.due ≤ l[i] ∧ l[i] ≤ x.next - 1
      rotate_left
      · have HIN := hide (tb_false hbd)
        have HZ := hide (HNO.out (fun hp => hbd (hp.within _ (by rw [← HL.out]; exact List.getElem_mem hlt))))
        have HIN := hide (show tb (x.due ≤ l[i] ∧ l[i] ≤ x.next - 1) = false from HIN.out)
        clear hbd
        generalize l[i] = y at *
        go_wp2_with fail
        go_quiet ((go_at_call 67; exact Calls.quiet_of_same (l6In_b HIN.out)))
        go_wp2
        go_ret
        exact ⟨ret_bool HZ.out, below_drewN (HB2.out.trans (HBR.out.mono HB2.out.size)) _⟩
      have HIN := hide (tb_true hbd)
      have HIN2 := hide (all_step (P := fun y : Int => x.due ≤ y ∧ y ≤ x.next - 1) l i hlt HIN0.out hbd)
      clear hbd
      have HPC := hide hcell
      obtain ⟨y, hy⟩ : ∃ y, y = l[i] := ⟨_, rfl⟩
      rw [← hy] at hcell HIN
      have HY := hide hy
      clear hy
      go_wp2_with fail
      go_quiet ((go_at_call 67; exact Calls.quiet_of_same (l6In_b HIN.out)))
      go_wp2_with fail
      go_loopw [5] (fun s wz => (∃ j : Nat, j ≤ i ∧ s = .int .i64 j ∧ (∀ b (h : b < l.length), b < j → l[b] ≠ y)) ∧ Below w2.heap.size w2 wz) (fun s _ => i - (intOf s).toNat)
      case atStart => exact ⟨⟨0, Nat.zero_le _, rfl, fun a h1 h => absurd h (by omega)⟩, below_drewN HBR.out _⟩
      case round =>
        obtain ⟨⟨j, hj, rfl, hne⟩, hb⟩ := hrel
        obtain ⟨w4, rfl⟩ : ∃ W, W = wr := ⟨_, rfl⟩
        have HNE := hide hne
        have HBZ := hide hb
        have HPZ := hide (HPO.out.below hb HPL.out)
        have hszz := hb.size
        clear hne hb hcell
        by_cases hji : j < i
        · have hjI : (j : Int) < (i : Int) := by omega
          have hj0 : (0 : Int) ≤ (j : Int) := by omega
          have hjl : j < l.length := by omega
          have hjlI : (j : Int) < (l.length : Int) := by omega
          obtain ⟨g', off', e, hg', hcellj, -⟩ := ints_at HPZ.out hjl
          injection e with e
          injection e with e1 e2 _
          subst e1 e2
          obtain ⟨g', off', e, hg', hcelli, -⟩ := ints_at HPZ.out hlt
          injection e with e
          injection e with e1 e2 _
          subst e1 e2
          rw [← HY.out] at hcelli
          have hgz : g < w4.heap.size := Nat.lt_of_lt_of_le (HPL.out g hg) hszz
          by_cases heq : y = l[j]
          · have hEq : y = l[j] := heq
            have HZ := hide (HNO.out (fun hp => by have ho := hp.once; rw [← HL.out] at ho; exact (nodup_idx.1 ho) i hlt j hji (by rw [← HY.out]; exact hEq)))
            rw [← heq] at hcellj
            clear heq hEq
            go_wp2_with fail
            go_quiet (fail)
            go_wp2
            go_ret
            exact ⟨ret_bool HZ.out, below_drewN (HB2.out.trans (HBZ.out.mono HB2.out.size)) _⟩
          · have HS := hide (all_step (P := fun z : Int => z ≠ y) l j hjl HNE.out (fun e => heq e.symm))
            have hb1 : (y == l[j]) = false := by simpa using heq
            have hb2 : decide (y = l[j]) = false := by simpa using heq
            generalize l[j] = z at *
            go_wp2_with fail
            go_quiet (fail)
            go_wp2
            go_roundw
            case rel => exact ⟨⟨j + 1, by omega, by go_num, HS.out⟩, below_drewN HBZ.out _⟩
            case measure => simp [intOf]; omega
        · obtain rfl : j = i := by omega
          have hjI : ¬ ((j : Int) < (j : Int)) := by omega
          have HS := hide (show ∀ a (h : a < l.length) b (hb : b < a), a < j + 1 → l[a] ≠ l[b]'(by omega) from fun a h b hb hlt2 => by
            by_cases e : a < j
            · exact HDI.out a h b hb e
            · obtain rfl : a = j := by omega
              rw [← HY.out]
              exact fun e => HNE.out b (by omega) hb e.symm)
          go_wp2
          go_roundw
          case rel => exact ⟨⟨j + 1, by omega, by go_num, HIN2.out, HS.out⟩, HBZ.out⟩
          case measure => simp [intOf]; omega
    · obtain rfl : i = l.length := by omega
      have hii : ¬ ((l.length : Int) < (l.length : Int)) := by omega
      have HWI := hide (show ∀ j ∈ x.places, x.due ≤ j ∧ j ≤ x.next - 1 from by
        rw [← HL.out]
        intro z hz
        obtain ⟨a, ha, rfl⟩ := List.getElem_of_mem hz
        exact HIN0.out a ha ha)
      have HON := hide (show x.places.Nodup from by rw [← HL.out]; exact nodup_idx.2 (fun a h b hb => HDI.out a h b hb h))
      clear HIN0 HDI HPR
      have h7 : 3 < x.shut.length := by rw [HFM.out.shut]; omega
      have h7I : (3 : Int) < (x.shut.length : Int) := by omega
      obtain ⟨g7, off7, rfl, hg7, hc7, -⟩ := ints_at (R7.out.below HBR.out k7.out) h7
      have hg7l : g7 < w3.heap.size := Nat.lt_of_lt_of_le (k7.out g7 hg7) hsz
      have HSH := hide (show x.sh 3 = x.shut[3] from by unfold CrewWorld.sh; rw [List.getElem?_eq_getElem h7]; rfl)
      generalize x.shut[3] = s3 at *
      have x16 := HXR.out.cell 16
      have hwnd : IntKind.i64.wrap (x.next - x.due) = x.next - x.due := wrapI _ (by omega) (by omega)
      by_cases hal : s3 = 0 → (l.length : Int) = x.next - x.due
      rotate_left
      · have hs0 : s3 = 0 := Classical.byContradiction (fun h => hal (fun e => absurd e h))
        have hne : ¬ ((l.length : Int) = x.next - x.due) := fun h => hal (fun _ => h)
        have HZ := hide (HNO.out (fun hp => hne (by have ha := hp.all (by rw [HSH.out]; exact hs0); rw [← HL.out] at ha; exact ha)))
        clear hal
        go_wp2
        go_ret
        exact ⟨ret_bool HZ.out, (HB2.out.trans (HBR.out.mono HB2.out.size))⟩
      have HAL := hide (show x.sh 3 = 0 → (x.places.length : Int) = x.next - x.due from by rw [HSH.out, ← HL.out]; exact hal)
      have x2 := HXR.out.cell 2
      have x10 := HXR.out.cell 10
      have hs3c : (s3 = 0 ∧ (l.length : Int) = x.next - x.due) ∨ ¬ (s3 = 0) := by
        by_cases h : s3 = 0
        · exact .inl ⟨h, hal h⟩
        · exact .inr h
      clear hal
      go_upto_region 12 with fail
      go_cut [56] from 42 to 57 (fun s56 wx => s56 = .bool false ∧ w3 = wx)
      case first =>
        rcases hs3c with ⟨hs0, hle⟩ | hs0
        · have d1 : decide ((l.length : Int) = x.next - x.due) = true := dec_true hle
          have d2 : ((l.length : Int) == x.next - x.due) = true := by simpa using hle
          have HLE := hide (show ((l.length : Int) != x.next - x.due) = false from by rw [hle]; simp)
          clear hle
          go_wp2_with fail
          go_meet
          exact ⟨by first | rfl | exact congrArg Value.bool HLE.out, rfl⟩
        · go_wp2_with fail
          go_meet
          exact ⟨rfl, rfl⟩
      obtain ⟨rfl, rfl⟩ := hcut
      clear hs3c hc7 hg7l x16
      go_wp2_with fail
      go_loopw [6] (fun s wr => (∃ i : Nat, i ≤ x.ring.length ∧ s = .int .i64 i ∧ (∀ a (h : a < x.ring.length), a < i → -1 ≤ x.ring[a] ∧ (0 ≤ x.ring[a] → x.ring[a] % x.window = (a : Int)))) ∧ Below w2.heap.size w2 wr) (fun s _ => x.ring.length - (intOf s).toNat)
      case atStart => exact ⟨⟨0, Nat.zero_le _, rfl, fun a h1 h => absurd h (by omega)⟩, HBR.out⟩
      case round =>
        obtain ⟨⟨i, hi, rfl, hin⟩, hb⟩ := hrel
        obtain ⟨w4, rfl⟩ : ∃ W, W = wr := ⟨_, rfl⟩
        have HIN0 := hide hin
        have HBZ := hide hb
        have HXZ := hide (HX2.out.below hb HX2.out.lt)
        have hszz := hb.size
        have hR4 := R4.out.below hb k4.out
        clear hin hb x2 x3 x10 x11 xl
        have x2 := HXZ.out.cell 2
        have x10 := HXZ.out.cell 10
        have xl := HXZ.out.lt
        by_cases hlt : i < x.ring.length
        · have hiI : (i : Int) < (x.ring.length : Int) := by omega
          have hi0 : (0 : Int) ≤ (i : Int) := by omega
          obtain ⟨g, off, rfl, hg, hcell, -⟩ := ints_at hR4 hlt
          have hgl : g < w4.heap.size := Nat.lt_of_lt_of_le (k4.out g hg) hszz
          have HNR := hide (fun (hp : x.Placed) => hp.ring i hlt)
          have HST := hide (fun (h : -1 ≤ x.ring[i] ∧ (0 ≤ x.ring[i] → x.ring[i] % x.window = (i : Int))) => show ∀ a (h : a < x.ring.length), a < i + 1 → -1 ≤ x.ring[a] ∧ (0 ≤ x.ring[a] → x.ring[a] % x.window = (a : Int)) from fun a ha hlt2 => by
            by_cases e : a < i
            · exact HIN0.out a ha e
            · obtain rfl : a = i := by omega
              exact h)
          clear hR4
          generalize x.ring[i] = y at *
          have hw0 : ¬ (x.window = 0) := by omega
          have hw1 : ¬ (x.window = -1) := by omega
          by_cases hA : y < -1
          · have HZ := hide (HNO.out (fun hp => by have := (HNR.out hp).1; omega))
            have dA : decide (y < -1) = true := dec_true hA
            go_wp2_with fail
            go_quiet (fail)
            go_wp2
            go_ret
            exact ⟨ret_bool HZ.out, below_drewN (HB2.out.trans (HBZ.out.mono HB2.out.size)) _⟩
          have dA : decide (y < -1) = false := dec_false hA
          by_cases h0 : 0 ≤ y
          · have d0 : decide (0 ≤ y) = true := dec_true h0
            have htm : Int.tmod y x.window = y % x.window := tmod_pos h0
            have hmb := Int.emod_nonneg y (show x.window ≠ 0 by omega)
            have hml := Int.emod_lt_of_pos y (show 0 < x.window by omega)
            by_cases hm : y % x.window = (i : Int)
            · have HS := hide (HST.out ⟨by omega, fun _ => hm⟩)
              rw [hm] at htm
              clear hm hmb hml
              go_wp2_with fail
              go_quiet (fail)
              go_wp2
              go_roundw
              case rel => exact ⟨⟨i + 1, by omega, by go_num, HS.out⟩, below_drewN HBZ.out _⟩
              case measure => simp [intOf]; omega
            · have HZ := hide (HNO.out (fun hp => hm ((HNR.out hp).2 h0)))
              generalize y % x.window = m at *
              have dm : decide (m = (i : Int)) = false := dec_false hm
              have em : (m == (i : Int)) = false := by simpa using hm
              go_wp2_with fail
              go_quiet (fail)
              go_wp2
              go_ret
              exact ⟨ret_bool HZ.out, below_drewN (HB2.out.trans (HBZ.out.mono HB2.out.size)) _⟩
          · have d0 : decide (0 ≤ y) = false := dec_false h0
            have HS := hide (HST.out ⟨by omega, fun h => absurd h h0⟩)
            go_wp2_with fail
            go_quiet (fail)
            go_wp2
            go_roundw
            case rel => exact ⟨⟨i + 1, by omega, by go_num, HS.out⟩, below_drewN HBZ.out _⟩
            case measure => simp [intOf]; omega
        · obtain rfl : i = x.ring.length := by omega
          have hiI : ¬ ((x.ring.length : Int) < (x.ring.length : Int)) := by omega
          have HRG := hide (show ∀ i (h : i < x.ring.length), -1 ≤ x.ring[i] ∧ (0 ≤ x.ring[i] → x.ring[i] % x.window = (i : Int)) from fun a h => HIN0.out a h h)
          have hR6 := R6.out.below HBZ.out k6.out
          have HR5 := hide (R5.out.below HBZ.out k5.out)
          have x14 := HXZ.out.cell 14
          clear HIN0 hR4
          go_wp2_with fail
          go_loopw [7] (fun s wr => (∃ i : Nat, i ≤ x.got.length ∧ s = .int .i64 i ∧ (∀ a (h : a < x.got.length), a < i → x.got[a] = (a : Int))) ∧ wr = w4) (fun s _ => x.got.length - (intOf s).toNat)
          case atStart => exact ⟨⟨0, Nat.zero_le _, rfl, fun a h1 h => absurd h (by omega)⟩, rfl⟩
          case round =>
            obtain ⟨⟨i, hi, rfl, hin⟩, rfl⟩ := hrel
            have HIN0 := hide hin
            clear hin
            by_cases hlt : i < x.got.length
            · have hjI : (i : Int) < (x.got.length : Int) := by omega
              obtain ⟨g, off, rfl, hg, hcell, -⟩ := ints_at hR6 hlt
              have hgl : g < wr.heap.size := Nat.lt_of_lt_of_le (k6.out g hg) hszz
              have HNG := hide (fun (hp : x.Placed) => hp.got i hlt)
              have HST := hide (fun (h : x.got[i] = (i : Int)) => show ∀ a (h : a < x.got.length), a < i + 1 → x.got[a] = (a : Int) from fun a ha hlt2 => by
                by_cases e : a < i
                · exact HIN0.out a ha e
                · obtain rfl : a = i := by omega
                  exact h)
              clear hR6
              generalize x.got[i] = y at *
              by_cases hm : y = (i : Int)
              · have HS := hide (HST.out hm)
                go_wp2
                go_roundw
                case rel => exact ⟨⟨i + 1, by omega, by go_num, HS.out⟩, by trivial⟩
                case measure => simp [intOf]; omega
              · have HZ := hide (HNO.out (fun hp => hm (HNG.out hp)))
                go_wp2
                go_ret
                exact ⟨ret_bool HZ.out, (HB2.out.trans (HBZ.out.mono HB2.out.size))⟩
            · obtain rfl : i = x.got.length := by omega
              have hjI : ¬ ((x.got.length : Int) < (x.got.length : Int)) := by omega
              have HGT := hide (show ∀ i (h : i < x.got.length), x.got[i] = (i : Int) from fun a h => HIN0.out a h h)
              obtain ⟨w5, rfl⟩ : ∃ W, W = wr := ⟨_, rfl⟩
              have x3 := HXZ.out.cell 3
              have x9 := HXZ.out.cell 9
              have x11 := HXZ.out.cell 11
              have x12 := HXZ.out.cell 12
              have x15 := HXZ.out.cell 15
              have hol := HFM.out.out
              have hwgo : IntKind.i64.wrap ((x.got.length : Int) + (x.out.length : Int)) = (x.got.length : Int) + (x.out.length : Int) := wrapI _ (by omega) (by omega)
              have q1 : IntKind.i64.wrap (x.room + x.next) = x.room + x.next := wrapI _ (by omega) (by omega)
              have q2 : IntKind.i64.wrap (x.room + x.next - x.due) = x.room + x.next - x.due := wrapI _ (by omega) (by omega)
              have q3 : IntKind.i64.wrap (x.room + x.next - x.due + 1) = x.room + x.next - x.due + 1 := wrapI _ (by omega) (by omega)
              have q4 : IntKind.i64.wrap (x.room + x.next - x.due + 0) = x.room + x.next - x.due + 0 := wrapI _ (by omega) (by omega)
              have HR5' := HR5
              have dres : ∀ (b : Bool), (b = true ↔ x.Placed) → b = tb x.Placed := fun b h => by
                cases b
                · exact (tb_false (fun hp => by cases h.2 hp)).symm
                · exact (tb_true (h.1 rfl)).symm
              have HDR := hide dres
              have HQ := hide (show x.Placed ↔ x.due = (x.got.length : Int) + (x.out.length : Int) ∧ (∀ j ∈ x.out, j = (x.got.length : Int)) ∧ x.room + x.next - x.due + bitP (x.keeper = 3) = x.window from
                ⟨fun hp => ⟨hp.due, hp.out, hp.room⟩, fun h => ⟨HWI.out, HON.out, HAL.out, HRG.out, HGT.out, h.1, h.2.1, h.2.2⟩⟩)
              clear dres
              by_cases hk3 : x.keeper = 3
              · have HBIT := hide (show bitP (x.keeper = 3) = 1 from by rw [hk3]; rfl)
                by_cases hdue : x.due = (x.got.length : Int) + (x.out.length : Int)
                rotate_left
                · have HV := hide (show false = tb x.Placed from HDR.out false ⟨fun h => (by cases h), fun hp => absurd (HQ.out.1 hp).1 hdue⟩)
                  have dd : decide (x.due = (x.got.length : Int) + (x.out.length : Int)) = false := dec_false hdue
                  have ed : (x.due == (x.got.length : Int) + (x.out.length : Int)) = false := by simpa using hdue
                  go_wp2_with fail
                  go_quiet (fail)
                  go_wp2
                  go_ret
                  exact ⟨ret_bool HV.out, below_drewN (HB2.out.trans (HBZ.out.mono HB2.out.size)) _⟩
                have HDUE := hide hdue
                have dd : decide (x.due = (x.got.length : Int) + (x.out.length : Int)) = true := dec_true hdue
                have ed : (x.due == (x.got.length : Int) + (x.out.length : Int)) = true := by simpa using hdue
                clear hdue
                by_cases ho0 : x.out.length = 0
                · have HO0 := hide (show ∀ j ∈ x.out, j = (x.got.length : Int) from by rw [List.eq_nil_of_length_eq_zero ho0]; intro j hj; cases hj)
                  have o0 : decide ((x.out.length : Int) = 0) = true := dec_true (by omega)
                  have o1 : ((x.out.length : Int) == 0) = true := by simp [ho0]
                  clear ho0
                  by_cases hrw : x.room + x.next - x.due + 1 = x.window
                  · have dr : decide (x.room + x.next - x.due + 1 = x.window) = true := dec_true hrw
                    have er : (x.room + x.next - x.due + 1 == x.window) = true := by simpa using hrw
                    have HV := hide (show true = tb x.Placed from HDR.out true ⟨fun _ => HQ.out.2 ⟨HDUE.out, HO0.out, by rw [HBIT.out]; omega⟩, fun _ => rfl⟩)
                    clear hrw
                    go_wp2_with fail
                    go_quiet (fail)
                    go_wp2
                    go_ret
                    exact ⟨ret_bool HV.out, below_drewN (HB2.out.trans (HBZ.out.mono HB2.out.size)) _⟩
                  · have dr : decide (x.room + x.next - x.due + 1 = x.window) = false := dec_false hrw
                    have er : (x.room + x.next - x.due + 1 == x.window) = false := by simpa using hrw
                    have HV := hide (show false = tb x.Placed from HDR.out false ⟨fun h => (by cases h), fun hp => absurd (by have h := (HQ.out.1 hp).2.2; rw [HBIT.out] at h; omega) hrw⟩)
                    go_wp2_with fail
                    go_quiet (fail)
                    go_wp2
                    go_ret
                    exact ⟨ret_bool HV.out, below_drewN (HB2.out.trans (HBZ.out.mono HB2.out.size)) _⟩
                have ho1 : x.out.length = 1 := by omega
                have hlt0 : 0 < x.out.length := by omega
                have hlI : (0 : Int) < (x.out.length : Int) := by omega
                obtain ⟨g, off, rfl, hg, hcell, -⟩ := ints_at HR5.out hlt0
                have hgl : g < w5.heap.size := Nat.lt_of_lt_of_le (k5.out g hg) hszz
                have HAO := hide (show (∀ j ∈ x.out, j = (x.got.length : Int)) ↔ x.out[0] = (x.got.length : Int) from by
                  refine ⟨fun h => h _ (List.getElem_mem hlt0), fun h j hj => ?_⟩
                  obtain ⟨a, ha, rfl⟩ := List.getElem_of_mem hj
                  obtain rfl : a = 0 := by omega
                  exact h)
                generalize x.out[0] = y at *
                simp only [Nat.add_zero] at hcell
                have o0 : decide ((x.out.length : Int) = 0) = false := dec_false (by omega)
                have o1 : ((x.out.length : Int) == 0) = false := beq_eq_false_iff_ne.2 (by omega)
                have o2 : ¬ ((x.out.length : Int) = 0) := by omega
                clear ho0 ho1
                by_cases hy : y = (x.got.length : Int)
                · have HO0 := hide (HAO.out.2 hy)
                  have dy : decide (y = (x.got.length : Int)) = true := dec_true hy
                  have ey : (y == (x.got.length : Int)) = true := by simpa using hy
                  clear hy
                  by_cases hrw : x.room + x.next - x.due + 1 = x.window
                  · have dr : decide (x.room + x.next - x.due + 1 = x.window) = true := dec_true hrw
                    have er : (x.room + x.next - x.due + 1 == x.window) = true := by simpa using hrw
                    have HV := hide (show true = tb x.Placed from HDR.out true ⟨fun _ => HQ.out.2 ⟨HDUE.out, HO0.out, by rw [HBIT.out]; omega⟩, fun _ => rfl⟩)
                    clear hrw
                    go_wp2_with fail
                    go_quiet (fail)
                    go_wp2
                    go_ret
                    exact ⟨ret_bool HV.out, below_drewN (HB2.out.trans (HBZ.out.mono HB2.out.size)) _⟩
                  · have dr : decide (x.room + x.next - x.due + 1 = x.window) = false := dec_false hrw
                    have er : (x.room + x.next - x.due + 1 == x.window) = false := by simpa using hrw
                    have HV := hide (show false = tb x.Placed from HDR.out false ⟨fun h => (by cases h), fun hp => absurd (by have h := (HQ.out.1 hp).2.2; rw [HBIT.out] at h; omega) hrw⟩)
                    go_wp2_with fail
                    go_quiet (fail)
                    go_wp2
                    go_ret
                    exact ⟨ret_bool HV.out, below_drewN (HB2.out.trans (HBZ.out.mono HB2.out.size)) _⟩
                · have HV := hide (show false = tb x.Placed from HDR.out false ⟨fun h => (by cases h), fun hp => absurd (HAO.out.1 (HQ.out.1 hp).2.1) hy⟩)
                  have dy : decide (y = (x.got.length : Int)) = false := dec_false hy
                  have ey : (y == (x.got.length : Int)) = false := by simpa using hy
                  go_wp2_with fail
                  go_quiet (fail)
                  go_wp2
                  go_ret
                  exact ⟨ret_bool HV.out, below_drewN (HB2.out.trans (HBZ.out.mono HB2.out.size)) _⟩
              · have HBIT := hide (show bitP (x.keeper = 3) = 0 from by unfold bitP; rw [if_neg hk3])
                by_cases hdue : x.due = (x.got.length : Int) + (x.out.length : Int)
                rotate_left
                · have HV := hide (show false = tb x.Placed from HDR.out false ⟨fun h => (by cases h), fun hp => absurd (HQ.out.1 hp).1 hdue⟩)
                  have dd : decide (x.due = (x.got.length : Int) + (x.out.length : Int)) = false := dec_false hdue
                  have ed : (x.due == (x.got.length : Int) + (x.out.length : Int)) = false := by simpa using hdue
                  go_wp2_with fail
                  go_quiet (fail)
                  go_wp2
                  go_ret
                  exact ⟨ret_bool HV.out, below_drewN (HB2.out.trans (HBZ.out.mono HB2.out.size)) _⟩
                have HDUE := hide hdue
                have dd : decide (x.due = (x.got.length : Int) + (x.out.length : Int)) = true := dec_true hdue
                have ed : (x.due == (x.got.length : Int) + (x.out.length : Int)) = true := by simpa using hdue
                clear hdue
                by_cases ho0 : x.out.length = 0
                · have HO0 := hide (show ∀ j ∈ x.out, j = (x.got.length : Int) from by rw [List.eq_nil_of_length_eq_zero ho0]; intro j hj; cases hj)
                  have o0 : decide ((x.out.length : Int) = 0) = true := dec_true (by omega)
                  have o1 : ((x.out.length : Int) == 0) = true := by simp [ho0]
                  clear ho0
                  by_cases hrw : x.room + x.next - x.due = x.window
                  · have dr : decide (x.room + x.next - x.due = x.window) = true := dec_true hrw
                    have er : (x.room + x.next - x.due == x.window) = true := by simpa using hrw
                    have HV := hide (show true = tb x.Placed from HDR.out true ⟨fun _ => HQ.out.2 ⟨HDUE.out, HO0.out, by rw [HBIT.out]; omega⟩, fun _ => rfl⟩)
                    clear hrw
                    go_wp2_with fail
                    go_quiet (fail)
                    go_wp2
                    go_ret
                    exact ⟨ret_bool HV.out, below_drewN (HB2.out.trans (HBZ.out.mono HB2.out.size)) _⟩
                  · have dr : decide (x.room + x.next - x.due = x.window) = false := dec_false hrw
                    have er : (x.room + x.next - x.due == x.window) = false := by simpa using hrw
                    have HV := hide (show false = tb x.Placed from HDR.out false ⟨fun h => (by cases h), fun hp => absurd (by have h := (HQ.out.1 hp).2.2; rw [HBIT.out] at h; omega) hrw⟩)
                    go_wp2_with fail
                    go_quiet (fail)
                    go_wp2
                    go_ret
                    exact ⟨ret_bool HV.out, below_drewN (HB2.out.trans (HBZ.out.mono HB2.out.size)) _⟩
                have ho1 : x.out.length = 1 := by omega
                have hlt0 : 0 < x.out.length := by omega
                have hlI : (0 : Int) < (x.out.length : Int) := by omega
                obtain ⟨g, off, rfl, hg, hcell, -⟩ := ints_at HR5.out hlt0
                have hgl : g < w5.heap.size := Nat.lt_of_lt_of_le (k5.out g hg) hszz
                have HAO := hide (show (∀ j ∈ x.out, j = (x.got.length : Int)) ↔ x.out[0] = (x.got.length : Int) from by
                  refine ⟨fun h => h _ (List.getElem_mem hlt0), fun h j hj => ?_⟩
                  obtain ⟨a, ha, rfl⟩ := List.getElem_of_mem hj
                  obtain rfl : a = 0 := by omega
                  exact h)
                generalize x.out[0] = y at *
                simp only [Nat.add_zero] at hcell
                have o0 : decide ((x.out.length : Int) = 0) = false := dec_false (by omega)
                have o1 : ((x.out.length : Int) == 0) = false := beq_eq_false_iff_ne.2 (by omega)
                have o2 : ¬ ((x.out.length : Int) = 0) := by omega
                clear ho0 ho1
                by_cases hy : y = (x.got.length : Int)
                · have HO0 := hide (HAO.out.2 hy)
                  have dy : decide (y = (x.got.length : Int)) = true := dec_true hy
                  have ey : (y == (x.got.length : Int)) = true := by simpa using hy
                  clear hy
                  by_cases hrw : x.room + x.next - x.due = x.window
                  · have dr : decide (x.room + x.next - x.due = x.window) = true := dec_true hrw
                    have er : (x.room + x.next - x.due == x.window) = true := by simpa using hrw
                    have HV := hide (show true = tb x.Placed from HDR.out true ⟨fun _ => HQ.out.2 ⟨HDUE.out, HO0.out, by rw [HBIT.out]; omega⟩, fun _ => rfl⟩)
                    clear hrw
                    go_wp2_with fail
                    go_quiet (fail)
                    go_wp2
                    go_ret
                    exact ⟨ret_bool HV.out, below_drewN (HB2.out.trans (HBZ.out.mono HB2.out.size)) _⟩
                  · have dr : decide (x.room + x.next - x.due = x.window) = false := dec_false hrw
                    have er : (x.room + x.next - x.due == x.window) = false := by simpa using hrw
                    have HV := hide (show false = tb x.Placed from HDR.out false ⟨fun h => (by cases h), fun hp => absurd (by have h := (HQ.out.1 hp).2.2; rw [HBIT.out] at h; omega) hrw⟩)
                    go_wp2_with fail
                    go_quiet (fail)
                    go_wp2
                    go_ret
                    exact ⟨ret_bool HV.out, below_drewN (HB2.out.trans (HBZ.out.mono HB2.out.size)) _⟩
                · have HV := hide (show false = tb x.Placed from HDR.out false ⟨fun h => (by cases h), fun hp => absurd (HAO.out.1 (HQ.out.1 hp).2.1) hy⟩)
                  have dy : decide (y = (x.got.length : Int)) = false := dec_false hy
                  have ey : (y == (x.got.length : Int)) = false := by simpa using hy
                  go_wp2_with fail
                  go_quiet (fail)
                  go_wp2
                  go_ret
                  exact ⟨ret_bool HV.out, below_drewN (HB2.out.trans (HBZ.out.mono HB2.out.size)) _⟩
end Go.Proofs.Ytpkjjfnfolbcoaa
