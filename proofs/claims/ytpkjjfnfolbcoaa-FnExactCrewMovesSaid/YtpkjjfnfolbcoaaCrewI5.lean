/-
  Whether the jobs of a crew are where they must be: the program.
-/
import Derived.Test.YtpkjjfnfolbcoaaCrewI4
import Derived.Test.YtpkjjfnfolbcoaaCrewS
import Derived.Test.YtpkjjfnfolbcoaaSortI
import Derived.Test.YtpkjjfnfolbcoaaCrewW4
set_option linter.unusedVariables false
set_option linter.unusedSimpArgs false
namespace Go.Proofs.Ytpkjjfnfolbcoaa
open Go.ChangeShapes Go.WideShapes Go.ChangeAt Go.RowKit

theorem inRange_b {n lo hi : Int} {w : World} {b : Bool} (hb : tb (lo ≤ n ∧ n ≤ hi) = b) :
    Calls Try.prog 68 #[.int .i64 n, .int .i64 lo, .int .i64 hi] w fun e w' => e = .returned (.bool b) ∧ w' = w :=
  (inRange_any n lo hi w).mono (fun e w' ⟨he, hw⟩ => ⟨by rw [he, hb], hw.symm⟩)
theorem way_len {x : CrewWorld} (h : x.Form) : x.way.length ≤ 41 := by
  have h1 := h.queue
  have h2 := h.results
  have h3 := h.hands
  have h4 := h.ring
  have h5 := h.start
  have h6 := handJobs_len x.hands
  have h7 := List.length_filter_le (fun j => decide (j ≠ (-1 : Int))) x.ring
  have h8 : x.sent.length ≤ 1 := by unfold CrewWorld.sent; split <;> simp
  unfold CrewWorld.way
  simp only [List.length_append]
  unfold crewOk at h5
  omega
def StepOk (l : List Int) (lo hi : Int) (i : Nat) : Prop := ∀ h : i < l.length, (lo ≤ l[i] ∧ l[i] ≤ hi) ∧ (0 < i → l[i - 1]'(by omega) ≠ l[i])
theorem steps_all {l : List Int} {lo hi : Int} : (∀ i, i < l.length → StepOk (sortI l) lo hi i) ↔ (∀ j ∈ l, lo ≤ j ∧ j ≤ hi) ∧ l.Nodup := by
  have hp := sortI_perm l
  have hl := hp.length_eq
  have hs := sorted_nodup (sortI_sorted l)
  rw [← hp.nodup_iff, hs]
  constructor
  · intro h
    refine ⟨fun j hj => ?_, fun i hi h0 => (h i (by omega) hi).2 h0⟩
    obtain ⟨a, ha, rfl⟩ := List.getElem_of_mem (hp.mem_iff.2 hj)
    exact (h a (by omega) ha).1
  · intro h i hi hi2
    exact ⟨h.1 _ (hp.mem_iff.1 (List.getElem_mem hi2)), fun h0 => h.2 i hi2 h0⟩
theorem bitP_any (a b : Int) (w : World) : Calls Try.prog 123 #[.bool (a == b)] w fun e w' => e = .returned (.int .i64 (bitP (a = b))) ∧ w' = w :=
  (bit_any (a == b) w).mono (fun e w' ⟨he, hw⟩ => ⟨by rw [he]; congr 1; unfold bitP; by_cases h : a = b <;> simp [h], hw⟩)
set_option maxRecDepth 100000 in
set_option maxHeartbeats 8000000 in
theorem jobsOk_any (x : CrewWorld) (us : List Value) (fp : List Nat) (b : Nat) (w : World) (hb : Row w b 30 us) (ho : OwC w x.cells us fp) (hf : Lt fp w.heap.size) (hfm : x.Form) (hgl : x.got.length ≤ 1048576) :
    Calls Try.prog 117 #[.pointer (some ⟨b, 0, none⟩)] w fun e w' => e = .returned (.bool (tb x.Laid)) ∧ Below w.heap.size w w' := by
  have HFM := hide hfm
  have HRB := hide hb
  have HWAY := hide (implWay_any x us fp b w hb ho hf hfm)
  clear hfm
  have HO := hide ho
  have HF := hide hf
  obtain ⟨A1, c1, A2, c2, A3, c3, A4, c4, A5, c5, A6, c6, A7, c7, f1, f2, f3, f4, f5, f6, f7, rfl, wjobs, wworkers, wwindow, wnext, wreader, o1, o2, wcloser, o3, wkeeper, o4, wdue, o5, wuser, o6, wroom, o7, wops, rfl⟩ := ho.oCrewWorld
  have O4 := hide o4
  have l4 := hf.right.right.right.left
  obtain ⟨-, n4, m4⟩ := o4.nlen
  unfold maxLen at m4
  have O5 := hide o5
  have l5 := hf.right.right.right.right.left
  obtain ⟨-, n5, m5⟩ := o5.nlen
  unfold maxLen at m5
  have O6 := hide o6
  have l6 := hf.right.right.right.right.right.left
  obtain ⟨-, n6, m6⟩ := o6.nlen
  unfold maxLen at m6
  have O7 := hide o7
  have l7 := hf.right.right.right.right.right.right
  obtain ⟨-, n7, m7⟩ := o7.nlen
  unfold maxLen at m7
  have HX := hide hb
  clear ho hb o1 o2 o3 o4 o5 o6 o7
  have x2 := HX.out.cell 2
  have x3 := HX.out.cell 3
  have x9 := HX.out.cell 9
  have x10 := HX.out.cell 10
  have x11 := HX.out.cell 11
  have x12 := HX.out.cell 12
  have x14 := HX.out.cell 14
  have x15 := HX.out.cell 15
  have x16 := HX.out.cell 16
  have xl := HX.out.lt
  go_enter Try.func117, Try.ntmps117
  have HNO := hide (fun (h : ¬ x.Laid) => show false = tb x.Laid from (tb_false h).symm)
  have hnx := HFM.out.next
  have hjj := HFM.out.start.1
  have hww := HFM.out.start.2.2
  have hdu := HFM.out.due
  have hrm := HFM.out.room
  have hwl := way_len HFM.out
  go_wp2_with fail
  refine HWAY.out.mono ?_
  rintro e w1 ⟨LA, ln, lc, lus, rfl, hp1⟩
  have HS := hide (sortInts_any hp1 (by omega))
  clear HWAY hp1
  go_wp2_with fail
  refine HS.out.mono ?_
  rintro e w2 ⟨rfl, lus2, hp2⟩
  have HB2 := hide hp2.fr
  obtain ⟨l, hl⟩ : ∃ l, l = sortI x.way := ⟨_, rfl⟩
  rw [← hl] at hp2
  obtain ⟨lq, hlo, hln, -⟩ := hp2.own.toOw'
  obtain ⟨rfl, -, -⟩ := hlo.nlen
  have HLO := hide hlo
  have HLL := hide hln.lt
  have hll : l.length = x.way.length := by rw [hl]; exact (sortI_perm _).length_eq
  have HST := hide (show (∀ i, i < l.length → StepOk l x.due (x.next - 1) i) ↔ (∀ j ∈ x.way, x.due ≤ j ∧ j ≤ x.next - 1) ∧ x.way.Nodup from by rw [hll, hl]; exact steps_all)
  have HLN := hide hll
  have hl41 : l.length ≤ 41 := by omega
  have HX2 := hide (HX.out.below HB2.out HX.out.lt)
  have R4 := hide (O4.out.below HB2.out l4)
  have R5 := hide (O5.out.below HB2.out l5)
  have R6 := hide (O6.out.below HB2.out l6)
  have R7 := hide (O7.out.below HB2.out l7)
  have k4 := hide (l4.up HB2.out)
  have k5 := hide (l5.up HB2.out)
  have k6 := hide (l6.up HB2.out)
  have k7 := hide (l7.up HB2.out)
  have HOB := hide (HO.out.below HB2.out HF.out)
  have HFB := hide (HF.out.up HB2.out)
  clear hl hlo hln hll hp2 HS HX HO HF HRB O4 O5 O6 O7 l4 l5 l6 l7 x2 x3 x9 x10 x11 x12 x14 x15 x16 xl hwl
  have hwn : IntKind.i64.wrap (x.next - 1) = x.next - 1 := wrapI _ (by omega) (by omega)
  go_wp2_with fail
  go_loopw [16] (fun s wr => (∃ i : Nat, i ≤ l.length ∧ s = .int .i64 i ∧ (∀ a, a < i → StepOk l x.due (x.next - 1) a)) ∧ Below w2.heap.size w2 wr) (fun s _ => l.length - (intOf s).toNat)
  case atStart => exact ⟨⟨0, Nat.zero_le _, rfl, fun a h => absurd h (by omega)⟩, Below.refl _ _⟩
  case round =>
    obtain ⟨⟨i, hi, rfl, hin⟩, hb⟩ := hrel
    obtain ⟨w3, rfl⟩ : ∃ W, W = wr := ⟨_, rfl⟩
    have HIN0 := hide hin
    have HBR := hide hb
    have HXR := hide (HX2.out.below hb HX2.out.lt)
    have HPR := hide (HLO.out.below hb HLL.out)
    have hsz := hb.size
    clear hin hb
    have x3 := HXR.out.cell 3
    have x11 := HXR.out.cell 11
    have xl := HXR.out.lt
    by_cases hlt : i < l.length
    · have hii : (i : Int) < (l.length : Int) := by omega
      have hi0 : (0 : Int) ≤ (i : Int) := by omega
      obtain ⟨g, off, rfl, hg, hcell, -⟩ := ints_at HPR.out hlt
      have hgl : g < w3.heap.size := Nat.lt_of_lt_of_le (HLL.out g hg) hsz
      have HNS := hide (fun (h : ¬ StepOk l x.due (x.next - 1) i) => HNO.out (fun hp => h (HST.out.2 ⟨hp.within, hp.once⟩ i hlt)))
      by_cases hbd : x.due ≤ l[i] ∧ l[i] ≤ x.next - 1
      rotate_left
      · have HIN := hide (tb_false hbd)
        have HZ := hide (HNS.out (fun h => hbd (h hlt).1))
        clear hbd
        generalize l[i] = y at *
        go_wp2_with fail
        go_quiet ((go_at_call 68; exact Calls.quiet_of_same (inRange_b HIN.out)))
        go_wp2
        go_ret
        exact ⟨ret_bool HZ.out, below_drewN (HB2.out.trans (HBR.out.mono HB2.out.size)) _⟩
      have HIN := hide (tb_true hbd)
      have HBD := hide hbd
      clear hbd
      by_cases h0 : i = 0
      · have HS := hide (show ∀ a, a < i + 1 → StepOk l x.due (x.next - 1) a from fun a ha => by
          obtain rfl : a = i := by omega
          exact fun h => ⟨HBD.out, fun h2 => by omega⟩)
        have d0 : decide ((0 : Int) < (i : Int)) = false := dec_false (by omega)
        have d1 : decide (0 < i) = false := dec_false (by omega)
        have HI0 := hide h0
        clear h0 HBD
        generalize l[i] = y at *
        go_wp2_with fail
        go_quiet ((go_at_call 68; exact Calls.quiet_of_same (inRange_b HIN.out)))
        go_wp2
        go_roundw
        case rel => exact ⟨⟨i + 1, by omega, by go_num, HS.out⟩, below_drewN HBR.out _⟩
        case measure => simp [intOf]; omega
      obtain ⟨k, hk⟩ : ∃ k, i = k + 1 := ⟨i - 1, by omega⟩
      have hkl : k < l.length := by omega
      have hkI : (k : Int) < (l.length : Int) := by omega
      have hk0 : (0 : Int) ≤ (k : Int) := by omega
      have hkw : IntKind.i64.wrap ((i : Int) - 1) = (k : Int) := by rw [wrapI _ (by omega) (by omega)]; omega
      have d0 : decide ((0 : Int) < (i : Int)) = true := dec_true (by omega)
      have d1 : decide (0 < i) = true := dec_true (by omega)
      have hki : ∀ h : i - 1 < l.length, l[i - 1]'h = l[k] := fun h => by congr 1; omega
      obtain ⟨g', off', e, hg', hcellk, -⟩ := ints_at HPR.out hkl
      injection e with e
      injection e with e1 e2 _
      subst e1 e2
      have HKI := hide hki
      have HK := hide hk
      clear hk h0 hki
      by_cases heq : l[k] = l[i]
      · have HZ := hide (HNS.out (fun h => (h hlt).2 (by have := HK.out; omega) (by rw [HKI.out]; exact heq)))
        rw [heq] at hcellk
        clear heq HBD HKI
        generalize l[i] = y at *
        go_wp2_with fail
        go_quiet ((go_at_call 68; exact Calls.quiet_of_same (inRange_b HIN.out)))
        go_wp2
        go_ret
        exact ⟨ret_bool HZ.out, below_drewN (HB2.out.trans (HBR.out.mono HB2.out.size)) _⟩
      have HS := hide (show ∀ a, a < i + 1 → StepOk l x.due (x.next - 1) a from fun a ha => by
        by_cases h : a < i
        · exact HIN0.out a h
        · obtain rfl : a = i := by omega
          exact fun h => ⟨HBD.out, fun h2 => by rw [HKI.out]; exact heq⟩)
      have e0 := beqf' heq
      clear heq HBD HKI HNS HST
      generalize l[i] = y at *
      generalize l[k] = z at *
      go_wp2_with fail
      go_quiet ((go_at_call 68; exact Calls.quiet_of_same (inRange_b HIN.out)))
      go_wp2
      go_roundw
      case rel => exact ⟨⟨i + 1, by omega, by go_num, HS.out⟩, below_drewN HBR.out _⟩
      case measure => simp [intOf]; omega
    · obtain rfl : i = l.length := by omega
      have hii : ¬ ((l.length : Int) < (l.length : Int)) := by omega
      have HWO := hide (HST.out.1 (fun a ha => HIN0.out a ha))
      clear HIN0 HPR HST
      have HIS := hide (fun (W : World) (hb : Below w2.heap.size w2 W) => isStopped_any x _ _ b W (HX2.out.below hb HX2.out.lt) (HOB.out.below hb HFB.out) (HFB.out.up hb) HFM.out)
      have hwnd : IntKind.i64.wrap (x.next - x.due) = x.next - x.due := wrapI _ (by omega) (by omega)
      by_cases hal : x.sh 3 ≠ 1 → (l.length : Int) = x.next - x.due
      rotate_left
      · have hs0 : x.sh 3 ≠ 1 := fun h => hal (fun e => absurd h e)
        have hne : ¬ ((l.length : Int) = x.next - x.due) := fun h => hal (fun _ => h)
        have HZ := hide (HNO.out (fun hp => hne (by have ha := hp.all hs0; rw [← HLN.out] at ha; exact ha)))
        have HI2 := hide (fun (W : World) (hb : Below w2.heap.size w2 W) => show Calls Try.prog 156 #[.pointer (some ⟨b, 0, none⟩)] W (fun e w' => e = .returned (.bool false) ∧ w' = W) from by have h := HIS.out W hb; rw [beqf' hs0] at h; exact h)
        have e1 := bnet' hne
        clear hal hs0 hne
        go_wp2_with fail
        go_quiet ((go_at_call 156; exact Calls.quiet_of_same (HI2.out _ (below_drewN HBR.out _))))
        go_wp2
        go_ret
        exact ⟨ret_bool HZ.out, below_drewN (HB2.out.trans (HBR.out.mono HB2.out.size)) _⟩
      have HAL := hide (show x.sh 3 ≠ 1 → (x.way.length : Int) = x.next - x.due from by rw [← HLN.out]; exact hal)
      go_upto_region 9 with fail
      go_cut [63] from 47 to 64 (fun s wx => s = .bool false ∧ Below w2.heap.size w2 wx)
      case first =>
        by_cases hs0 : x.sh 3 = 1
        · have HI2 := hide (fun (W : World) (hb : Below w2.heap.size w2 W) => show Calls Try.prog 156 #[.pointer (some ⟨b, 0, none⟩)] W (fun e w' => e = .returned (.bool true) ∧ w' = W) from by have h := HIS.out W hb; rw [beqt' hs0] at h; exact h)
          clear hs0 hal
          go_wp2_with fail
          go_quiet ((go_at_call 156; exact Calls.quiet_of_same (HI2.out _ (below_drewN HBR.out _))))
          go_wp2_with fail
          go_meet
          exact ⟨rfl, below_drewN HBR.out _⟩
        · have HI2 := hide (fun (W : World) (hb : Below w2.heap.size w2 W) => show Calls Try.prog 156 #[.pointer (some ⟨b, 0, none⟩)] W (fun e w' => e = .returned (.bool false) ∧ w' = W) from by have h := HIS.out W hb; rw [beqf' hs0] at h; exact h)
          have e1 := bnef' (hal hs0)
          clear hs0 hal
          go_wp2_with fail
          go_quiet ((go_at_call 156; exact Calls.quiet_of_same (HI2.out _ (below_drewN HBR.out _))))
          go_wp2_with fail
          go_meet
          exact ⟨rfl, below_drewN HBR.out _⟩
      obtain ⟨rfl, hb4⟩ := hcut
      obtain ⟨w4, rfl⟩ : ∃ W, W = wc := ⟨_, rfl⟩
      have HBZ := hide hb4
      have HXZ := hide (HX2.out.below hb4 HX2.out.lt)
      have hszz := hb4.size
      clear hal hb4 x3 x11 xl HBR HXR hsz HIS
      have HBR := HBZ
      have x10 := HXZ.out.cell 10
      have xl := HXZ.out.lt
      go_wp2_with fail
      go_loopw [69] (fun s wr => (∃ i : Nat, i ≤ x.ring.length ∧ s = .int .i64 i ∧ (∀ a (h : a < x.ring.length), a < i → x.ring[a] ≠ -1 → x.ring[a] % x.window = (a : Int))) ∧ wr = w4) (fun s _ => x.ring.length - (intOf s).toNat)
      case atStart => exact ⟨⟨0, Nat.zero_le _, rfl, fun a h1 h => absurd h (by omega)⟩, rfl⟩
      case round =>
        obtain ⟨⟨i, hi, rfl, hin⟩, rfl⟩ := hrel
        have HIN0 := hide hin
        have hR4 := R4.out.below HBR.out k4.out
        clear hin
        have x2 := HXZ.out.cell 2
        by_cases hlt : i < x.ring.length
        · have hiI : (i : Int) < (x.ring.length : Int) := by omega
          have hi0 : (0 : Int) ≤ (i : Int) := by omega
          obtain ⟨g, off, rfl, hg, hcell, -⟩ := ints_at hR4 hlt
          have hgl : g < wr.heap.size := Nat.lt_of_lt_of_le (k4.out g hg) hszz
          have HNR := hide (fun (hp : x.Laid) => hp.ring i hlt)
          have HMW := hide (show x.ring[i] ≠ -1 → 0 ≤ x.ring[i] from fun h => by
            have hm : x.ring[i] ∈ x.way := by unfold CrewWorld.way; simp [h]
            have := (HWO.out.1 _ hm).1
            omega)
          have HSTP := hide (fun (h : x.ring[i] ≠ -1 → x.ring[i] % x.window = (i : Int)) => show ∀ a (h : a < x.ring.length), a < i + 1 → x.ring[a] ≠ -1 → x.ring[a] % x.window = (a : Int) from fun a ha hlt2 => by
            by_cases e : a < i
            · exact HIN0.out a ha e
            · obtain rfl : a = i := by omega
              exact h)
          clear hR4
          generalize x.ring[i] = y at *
          have hw0 : ¬ (x.window = 0) := by omega
          have hw1 : ¬ (x.window = -1) := by omega
          by_cases hA : y = -1
          · have HS := hide (HSTP.out (fun h => absurd hA h))
            have e1 := bnef' hA
            clear hA
            go_wp2
            go_roundw
            case rel => exact ⟨⟨i + 1, by omega, by go_num, HS.out⟩, by trivial⟩
            case measure => simp [intOf]; omega
          · have h0 : 0 ≤ y := HMW.out hA
            have e1 := bnet' hA
            have htm : Int.tmod y x.window = y % x.window := tmod_pos h0
            have hmb := Int.emod_nonneg y (show x.window ≠ 0 by omega)
            have hml := Int.emod_lt_of_pos y (show 0 < x.window by omega)
            by_cases hm : y % x.window = (i : Int)
            · have HS := hide (HSTP.out (fun _ => hm))
              rw [hm] at htm
              clear hm hmb hml hA
              go_wp2
              go_roundw
              case rel => exact ⟨⟨i + 1, by omega, by go_num, HS.out⟩, by trivial⟩
              case measure => simp [intOf]; omega
            · have HZ := hide (HNO.out (fun hp => hm (HNR.out hp hA)))
              generalize y % x.window = m at *
              have em := bnet' hm
              clear hA hm
              go_wp2
              go_ret
              exact ⟨ret_bool HZ.out, (HB2.out.trans (HBR.out.mono HB2.out.size))⟩
        · obtain rfl : i = x.ring.length := by omega
          have hiI : ¬ ((x.ring.length : Int) < (x.ring.length : Int)) := by omega
          have HRG := hide (show ∀ i (h : i < x.ring.length), x.ring[i] ≠ -1 → x.ring[i] % x.window = (i : Int) from fun a h => HIN0.out a h h)
          have hR6 := R6.out.below HBR.out k6.out
          have HR5 := hide (R5.out.below HBR.out k5.out)
          have x14 := HXZ.out.cell 14
          clear HIN0 hR4 x2 x10
          obtain ⟨w5, rfl⟩ : ∃ W, W = wr := ⟨_, rfl⟩
          go_wp2_with fail
          go_loopw [92] (fun s wr => (∃ i : Nat, i ≤ x.got.length ∧ s = .int .i64 i ∧ (∀ a (h : a < x.got.length), a < i → x.got[a] = (a : Int))) ∧ wr = w5) (fun s _ => x.got.length - (intOf s).toNat)
          case atStart => exact ⟨⟨0, Nat.zero_le _, rfl, fun a h1 h => absurd h (by omega)⟩, rfl⟩
          case round =>
            obtain ⟨⟨i, hi, rfl, hin⟩, rfl⟩ := hrel
            have HIN0 := hide hin
            clear hin
            by_cases hlt : i < x.got.length
            · have hjI : (i : Int) < (x.got.length : Int) := by omega
              obtain ⟨g, off, rfl, hg, hcell, -⟩ := ints_at hR6 hlt
              have hgl : g < wr.heap.size := Nat.lt_of_lt_of_le (k6.out g hg) hszz
              have HNG := hide (fun (hp : x.Laid) => hp.got i hlt)
              have HSTP := hide (fun (h : x.got[i] = (i : Int)) => show ∀ a (h : a < x.got.length), a < i + 1 → x.got[a] = (a : Int) from fun a ha hlt2 => by
                by_cases e : a < i
                · exact HIN0.out a ha e
                · obtain rfl : a = i := by omega
                  exact h)
              clear hR6
              generalize x.got[i] = y at *
              by_cases hm : y = (i : Int)
              · have HS := hide (HSTP.out hm)
                have e1 := bnef' hm
                clear hm
                go_wp2
                go_roundw
                case rel => exact ⟨⟨i + 1, by omega, by go_num, HS.out⟩, by trivial⟩
                case measure => simp [intOf]; omega
              · have HZ := hide (HNO.out (fun hp => hm (HNG.out hp)))
                have e1 := bnet' hm
                clear hm
                go_wp2
                go_ret
                exact ⟨ret_bool HZ.out, (HB2.out.trans (HBR.out.mono HB2.out.size))⟩
            · obtain rfl : i = x.got.length := by omega
              have hjI : ¬ ((x.got.length : Int) < (x.got.length : Int)) := by omega
              have HGT := hide (show ∀ i (h : i < x.got.length), x.got[i] = (i : Int) from fun a h => HIN0.out a h h)
              obtain ⟨w6, rfl⟩ : ∃ W, W = wr := ⟨_, rfl⟩
              have x3 := HXZ.out.cell 3
              have x2 := HXZ.out.cell 2
              have x9 := HXZ.out.cell 9
              have x11 := HXZ.out.cell 11
              have x12 := HXZ.out.cell 12
              have x15 := HXZ.out.cell 15
              have hol := HFM.out.out
              have hwgo : IntKind.i64.wrap ((x.got.length : Int) + (x.out.length : Int)) = (x.got.length : Int) + (x.out.length : Int) := wrapI _ (by omega) (by omega)
              by_cases hdue : x.due = (x.got.length : Int) + (x.out.length : Int)
              rotate_left
              · have HZ := hide (HNO.out (fun hp => hdue hp.due))
                have ed := bnet' hdue
                clear hdue
                by_cases ho0 : x.out.length = 0
                · have HO0 := hide (show ∀ j ∈ x.out, j = (x.got.length : Int) from by rw [List.eq_nil_of_length_eq_zero ho0]; intro j hj; cases hj)
                  have o1 : ((x.out.length : Int) == 1) = false := beqf' (by omega)
                  clear ho0
                  go_wp2_with fail
                  go_quiet (fail)
                  go_wp2
                  go_ret
                  exact ⟨ret_bool HZ.out, below_drewN (HB2.out.trans (HBR.out.mono HB2.out.size)) _⟩
                have hlt0 : 0 < x.out.length := by omega
                have hlI : (0 : Int) < (x.out.length : Int) := by omega
                obtain ⟨g, off, rfl, hg, hcell, -⟩ := ints_at HR5.out hlt0
                have hgl : g < w6.heap.size := Nat.lt_of_lt_of_le (k5.out g hg) hszz
                have HAO := hide (show (∀ j ∈ x.out, j = (x.got.length : Int)) ↔ x.out[0] = (x.got.length : Int) from by
                  refine ⟨fun h => h _ (List.getElem_mem hlt0), fun h j hj => ?_⟩
                  obtain ⟨a, ha, rfl⟩ := List.getElem_of_mem hj
                  obtain rfl : a = 0 := by omega
                  exact h)
                generalize x.out[0] = y at *
                simp only [Nat.add_zero] at hcell
                have o1 : ((x.out.length : Int) == 1) = true := beqt' (by omega)
                clear ho0
                by_cases hy : y = (x.got.length : Int)
                · have HO0 := hide (HAO.out.2 hy)
                  have ey := bnef' hy
                  clear hy
                  go_wp2_with fail
                  go_quiet (fail)
                  go_wp2
                  go_ret
                  exact ⟨ret_bool HZ.out, below_drewN (HB2.out.trans (HBR.out.mono HB2.out.size)) _⟩

                have ey := bnet' hy
                clear hy
                go_wp2_with fail
                go_quiet (fail)
                go_wp2
                go_ret
                exact ⟨ret_bool HZ.out, below_drewN (HB2.out.trans (HBR.out.mono HB2.out.size)) _⟩
              have HDUE := hide hdue
              have ed := bnef' hdue
              clear hdue
              by_cases ho0 : x.out.length = 0
              · have HO0 := hide (show ∀ j ∈ x.out, j = (x.got.length : Int) from by rw [List.eq_nil_of_length_eq_zero ho0]; intro j hj; cases hj)
                have o1 : ((x.out.length : Int) == 1) = false := beqf' (by omega)
                clear ho0
                go_upto_region 23 with fail
                go_cut [138] from 101 to 139 (fun s wx => s = .bool false ∧ Below w2.heap.size w2 wx)
                case first =>
                  go_wp2_with fail
                  go_quiet (fail)
                  go_wp2_with fail
                  go_meet
                  exact ⟨rfl, below_drewN HBR.out _⟩
                obtain ⟨rfl, hb7⟩ := hcut
                have HBZ7 := hide hb7
                have HXZ7 := hide (HX2.out.below hb7 HX2.out.lt)
                obtain ⟨w7, rfl⟩ : ∃ W, W = wc := ⟨_, rfl⟩
                clear hb7 x3 x2 x9 x11 x12 x15 xl x14
                have x15 := HXZ7.out.cell 15
                have x3 := HXZ7.out.cell 3
                have x11 := HXZ7.out.cell 11
                have x9 := HXZ7.out.cell 9
                have x2 := HXZ7.out.cell 2
                have xl := HXZ7.out.lt
                obtain ⟨bk, hbk⟩ : ∃ bk, bk = bitP (x.keeper = 3) := ⟨_, rfl⟩
                have HBK := hide hbk
                have hb01 : 0 ≤ bk ∧ bk ≤ 1 := by rw [hbk]; unfold bitP; split <;> omega
                have q1 : IntKind.i64.wrap (x.room + x.next) = x.room + x.next := wrapI _ (by omega) (by omega)
                have q2 : IntKind.i64.wrap (x.room + x.next - x.due) = x.room + x.next - x.due := wrapI _ (by omega) (by omega)
                have q3 : IntKind.i64.wrap (x.room + x.next - x.due + bk) = x.room + x.next - x.due + bk := wrapI _ (by omega) (by omega)
                have HV := hide (show (x.room + x.next - x.due + bk == x.window) = tb x.Laid from by
                  by_cases hr : x.room + x.next - x.due + bk = x.window
                  · rw [tb_true (p := x.Laid) ⟨HWO.out.1, HWO.out.2, HAL.out, HRG.out, HGT.out, HDUE.out, HO0.out, by rw [← HBK.out]; exact hr⟩]
                    simpa using hr
                  · rw [tb_false (p := x.Laid) (fun hp => hr (by rw [HBK.out]; exact hp.room))]
                    simpa using hr)
                have HCB := hide (fun (W : World) => show Calls Try.prog 123 #[.bool (x.keeper == 3)] W (fun e w' => e = .returned (.int .i64 bk) ∧ w' = W) from by rw [HBK.out]; exact bitP_any x.keeper 3 W)
                clear hbk
                go_wp2_with fail
                go_quiet ((go_at_call 123; exact Calls.quiet_of_same (HCB.out _)))
                go_wp2
                go_ret
                exact ⟨ret_bool HV.out, below_drewN (HB2.out.trans (HBZ7.out.mono HB2.out.size)) _⟩
              have hlt0 : 0 < x.out.length := by omega
              have hlI : (0 : Int) < (x.out.length : Int) := by omega
              obtain ⟨g, off, rfl, hg, hcell, -⟩ := ints_at HR5.out hlt0
              have hgl : g < w6.heap.size := Nat.lt_of_lt_of_le (k5.out g hg) hszz
              have HAO := hide (show (∀ j ∈ x.out, j = (x.got.length : Int)) ↔ x.out[0] = (x.got.length : Int) from by
                refine ⟨fun h => h _ (List.getElem_mem hlt0), fun h j hj => ?_⟩
                obtain ⟨a, ha, rfl⟩ := List.getElem_of_mem hj
                obtain rfl : a = 0 := by omega
                exact h)
              generalize x.out[0] = y at *
              simp only [Nat.add_zero] at hcell
              have o1 : ((x.out.length : Int) == 1) = true := beqt' (by omega)
              clear ho0
              by_cases hy : y = (x.got.length : Int)
              · have HO0 := hide (HAO.out.2 hy)
                have ey := bnef' hy
                clear hy
                go_upto_region 23 with fail
                go_cut [138] from 101 to 139 (fun s wx => s = .bool false ∧ Below w2.heap.size w2 wx)
                case first =>
                  go_wp2_with fail
                  go_quiet (fail)
                  go_wp2_with fail
                  go_meet
                  exact ⟨rfl, below_drewN HBR.out _⟩
                obtain ⟨rfl, hb7⟩ := hcut
                have HBZ7 := hide hb7
                have HXZ7 := hide (HX2.out.below hb7 HX2.out.lt)
                obtain ⟨w7, rfl⟩ : ∃ W, W = wc := ⟨_, rfl⟩
                clear hb7 x3 x2 x9 x11 x12 x15 xl x14
                have x15 := HXZ7.out.cell 15
                have x3 := HXZ7.out.cell 3
                have x11 := HXZ7.out.cell 11
                have x9 := HXZ7.out.cell 9
                have x2 := HXZ7.out.cell 2
                have xl := HXZ7.out.lt
                obtain ⟨bk, hbk⟩ : ∃ bk, bk = bitP (x.keeper = 3) := ⟨_, rfl⟩
                have HBK := hide hbk
                have hb01 : 0 ≤ bk ∧ bk ≤ 1 := by rw [hbk]; unfold bitP; split <;> omega
                have q1 : IntKind.i64.wrap (x.room + x.next) = x.room + x.next := wrapI _ (by omega) (by omega)
                have q2 : IntKind.i64.wrap (x.room + x.next - x.due) = x.room + x.next - x.due := wrapI _ (by omega) (by omega)
                have q3 : IntKind.i64.wrap (x.room + x.next - x.due + bk) = x.room + x.next - x.due + bk := wrapI _ (by omega) (by omega)
                have HV := hide (show (x.room + x.next - x.due + bk == x.window) = tb x.Laid from by
                  by_cases hr : x.room + x.next - x.due + bk = x.window
                  · rw [tb_true (p := x.Laid) ⟨HWO.out.1, HWO.out.2, HAL.out, HRG.out, HGT.out, HDUE.out, HO0.out, by rw [← HBK.out]; exact hr⟩]
                    simpa using hr
                  · rw [tb_false (p := x.Laid) (fun hp => hr (by rw [HBK.out]; exact hp.room))]
                    simpa using hr)
                have HCB := hide (fun (W : World) => show Calls Try.prog 123 #[.bool (x.keeper == 3)] W (fun e w' => e = .returned (.int .i64 bk) ∧ w' = W) from by rw [HBK.out]; exact bitP_any x.keeper 3 W)
                clear hbk
                go_wp2_with fail
                go_quiet ((go_at_call 123; exact Calls.quiet_of_same (HCB.out _)))
                go_wp2
                go_ret
                exact ⟨ret_bool HV.out, below_drewN (HB2.out.trans (HBZ7.out.mono HB2.out.size)) _⟩
              have HZ := hide (HNO.out (fun hp => hy (HAO.out.1 hp.out)))
              have ey := bnet' hy
              clear hy
              go_wp2_with fail
              go_quiet (fail)
              go_wp2
              go_ret
              exact ⟨ret_bool HZ.out, below_drewN (HB2.out.trans (HBR.out.mono HB2.out.size)) _⟩
end Go.Proofs.Ytpkjjfnfolbcoaa
