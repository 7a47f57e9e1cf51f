/-
  Where the jobs of a crew are: the reference.
-/
import Derived.Deep.RegionHeld3
import Derived.StillTailTactics
import Derived.BigQuiet
import Derived.Test.YtpkjjfnfolbcoaaQTwo
import Derived.Test.YtpkjjfnfolbcoaaQCrewW1
set_option linter.unusedVariables false
set_option linter.unusedSimpArgs false
namespace Go.Proofs.Ytpkjjfnfolbcoaa
open Go.ChangeShapes Go.WideShapes Go.ChangeAt Go.RowKit

/-- a slice of numbers of the call's own -/
structure Pl (B : Nat) (W0 W : World) (v : Value) (l : List Int) (us : List Value) : Prop where
  own : OwS W B 3 1 intC v l us []
  fr : Below B W0 W
  sz : B ≤ W.heap.size
theorem Pl.alloc {B : Nat} {W0 W : World} {v : Value} {l : List Int} {us : List Value} (h : Pl B W0 W v l us) (o : Obj) : Pl B W0 (W.alloc o) v l us :=
  ⟨h.own.alloc o, h.fr.alloc h.sz o, by rw [World.size_alloc]; exact Nat.le_succ_of_le h.sz⟩
theorem Pl.put {B : Nat} {W0 W W' : World} {v v' : Value} {l l' : List Int} {us us' : List Value} (h : Pl B W0 W v l us) (hg : GB W W' v v') (hn : OwS W' B 3 1 intC v' l' us' []) : Pl B W0 W' v' l' us' :=
  ⟨hn, h.fr.trans (hg.toBelow h.sz (fun g e => h.own.from e)), Nat.le_trans h.sz hg.grown.size⟩
theorem Pl.same {B : Nat} {W0 W : World} {v : Value} {l l' : List Int} {us : List Value} (h : Pl B W0 W v l us) (e : l = l') : Pl B W0 W v l' us := e ▸ h
theorem Pl.empty (w : World) : Pl w.heap.size w (w.alloc (.cells #[] 3)) (.slice (some ⟨w.heap.size, 0, none⟩) 0 0) [] [] :=
  ⟨⟨World.ownsRow_made w #[] 0 (Nat.le_refl _) (by unfold maxLen; omega) (by simp), by simp [OwC], New.nil _ _, fun g h => by simp⟩, (Below.refl _ _).alloc (Nat.le_refl _) _, by simp⟩
theorem int_src (z : Int) (hz : (Lit.int .i64 z).wf = true) (W : World) : OwC W ([z].flatMap intC) [.int .i64 z] [] := ⟨[], [], ⟨rfl, hz, rfl⟩, rfl, rfl⟩
def PlacesOut (l : List Int) (w : World) (e : Ending) (w' : World) : Prop := ∃ (A : Option Addr) (c : Nat) (fq : List Nat), e = .returned (.slice A l.length c) ∧ Ow w' (.s 1 l.length (l.flatMap intC)) (.slice A l.length c) fq ∧ New w' fq w.heap.size ∧ Below w.heap.size w w'
theorem Pl.out {B : Nat} {w W0 W : World} {A : Option Addr} {n c : Nat} {l : List Int} {us : List Value} (h : Pl B W0 W (.slice A n c) l us) (h0 : Below w.heap.size w W0) (hB : w.heap.size ≤ B) : PlacesOut l w (.returned (.slice A n c)) W := by
  obtain ⟨fp, ho, hn, _⟩ := h.own.toOw'
  obtain ⟨rfl, _, _⟩ := ho.nlen
  exact ⟨A, c, fp, rfl, ho, hn.mono hB, h0.trans (h.fr.mono hB)⟩
theorem busy_eq (y : CrewHand) : y.busy = true ↔ y.state = 1 ∨ y.state = 2 := by unfold CrewHand.busy; simp
set_option maxRecDepth 100000 in
set_option maxHeartbeats 4000000 in
theorem l51Places_any (x : CrewWorld) (us : List Value) (fp : List Nat) (w : World) (ho : OwC w x.cells us fp) (hf : Lt fp w.heap.size) (hfm : x.Form) :
    Calls Try.prog 112 #[.agg us.toArray] w (PlacesOut x.places w) := by
  have HFM := hide hfm
  clear hfm
  have HO := hide ho
  have HF := hide hf
  obtain ⟨A1, c1, A2, c2, A3, c3, A4, c4, A5, c5, A6, c6, A7, c7, f1, f2, f3, f4, f5, f6, f7, rfl, wjobs, wworkers, wwindow, wnext, wreader, o1, o2, wcloser, o3, wkeeper, o4, wdue, o5, wuser, o6, wroom, o7, wops, rfl⟩ := ho.oCrewWorld
  clear ho
  go_enter Try.func112, Try.ntmps112
  go_upto_region 1 with fail
  generalize hw1 : w.alloc _ = w1
  have hb0 : Below w.heap.size w w1 := by rw [← hw1]; exact (Below.refl _ _).alloc (Nat.le_refl _) _
  have HX := hide (show Row w1 w.heap.size 30 [.int .i64 x.jobs, .int .i64 x.workers, .int .i64 x.window, .int .i64 x.next, .int .i64 x.reader, .slice A1 x.queue.length c1, .slice A2 x.hands.length c2, .int .i64 x.closer, .slice A3 x.results.length c3, .int .i64 x.keeper, .slice A4 x.ring.length c4, .int .i64 x.due, .slice A5 x.out.length c5, .int .i64 x.user, .slice A6 x.got.length c6, .int .i64 x.room, .slice A7 x.shut.length c7, .int .i64 x.ops] from by rw [← hw1]; exact Row.new w _ _)
  have HB := hide hb0
  have HOW := hide (HO.out.below hb0 hf)
  have HFW := hide (hf.up hb0)
  have O1 := hide (o1.below hb0 hf.left)
  have l1 := hf.left.up hb0
  obtain ⟨-, n1, m1⟩ := o1.nlen
  unfold maxLen at m1
  have O2 := hide (o2.below hb0 hf.right.left)
  have l2 := hf.right.left.up hb0
  obtain ⟨-, n2, m2⟩ := o2.nlen
  unfold maxLen at m2
  have O3 := hide (o3.below hb0 hf.right.right.left)
  have l3 := hf.right.right.left.up hb0
  obtain ⟨-, n3, m3⟩ := o3.nlen
  unfold maxLen at m3
  have O4 := hide (o4.below hb0 hf.right.right.right.left)
  have l4 := hf.right.right.right.left.up hb0
  obtain ⟨-, n4, m4⟩ := o4.nlen
  unfold maxLen at m4
  clear hw1 hb0 HO o1 o2 o3 o4 o5 o6 o7
  have x3 := HX.out.cell 3
  have x4 := HX.out.cell 4
  have x5 := HX.out.cell 5
  have xl := HX.out.lt
  have hq8 : x.queue.length ≤ 8 := by have := HFM.out.queue; have := HFM.out.start.2.1; omega
  have hr8 : x.results.length ≤ 8 := by have := HFM.out.results; have := HFM.out.start.2.1; omega
  have hh8 : x.hands.length ≤ 8 := by have := HFM.out.hands; have := HFM.out.start.2.1; omega
  have hr16 : x.ring.length ≤ 16 := by have := HFM.out.ring; have := HFM.out.start.2.2; omega
  obtain ⟨ia, hia, ja0, ja1, ja2⟩ := info_parts info_int
  have HIa := hide hia
  clear hia
  have HP0 := hide (Pl.empty w1)
  by_cases hrd : x.reader = 1
  · have hn1 : IntKind.i64.wrap (x.next - 1) = x.next - 1 := by have := HFM.out.next; have := HFM.out.start.1; exact wrapI _ (by omega) (by omega)
    have hnw : (Lit.int .i64 (x.next - 1)).wf = true := by have := HFM.out.next; have := HFM.out.start.1; exact WalkArith.wf_i64 (by omega)
    have HSENT := hide (show x.sent = [] ++ [x.next - 1] from by unfold CrewWorld.sent; rw [if_pos hrd]; rfl)
    have HPA := hide (HP0.out.alloc (.cells #[.int .i64 (x.next - 1)] 3))
    have hnb : -9223372036854775808 ≤ x.next - 1 ∧ x.next - 1 ≤ 9223372036854775807 := by have := HFM.out.next; have := HFM.out.start.1; omega
    have HSRC := hide (show SrcAt ((w1.alloc (.cells #[] 3)).alloc (.cells #[.int .i64 (x.next - 1)] 3)) [.int .i64 (x.next - 1)] (some ⟨w1.heap.size + 1, 0, none⟩) 1 1 from by have h := SrcAt.new (w1.alloc (.cells #[] 3)) [.int .i64 (x.next - 1)] 3 1 1; rw [World.size_alloc] at h; exact h)
    go_wp2_with (first | (at_builtin; refine wpl_app rfl _ _ 22 rfl ia _ 8 Try.underlying22 HIa.out ja0 ja1 ja2 rfl (by decide) intC_len rfl HP1.out.own x.queue HQ1.out (by exact New.nil _ _) (fun q _ hq => by cases hq) _ _ _ rfl rfl HQ2.out (by first | omega | (simp only [List.length_append, List.length_take, List.length_singleton, List.length_nil, List.length_cons]; omega)) (by decide) HP1.out.sz ?_; intro w5A w5n w5c w5 hn5 hown5 hgb5; have HP5 := hide (HP1.out.put hgb5 hown5); clear hown5 hgb5 hn5) | (at_builtin; refine wpl_app rfl _ _ 22 rfl ia _ 8 Try.underlying22 HIa.out ja0 ja1 ja2 rfl (by decide) intC_len rfl HPA.out.own [x.next - 1] (int_src (x.next - 1) hnw _) (by exact New.nil _ _) (fun q _ hq => by cases hq) _ _ _ rfl rfl HSRC.out (by first | omega | (simp only [List.length_append, List.length_take, List.length_singleton, List.length_nil, List.length_cons]; omega)) (by decide) HPA.out.sz ?_; intro w2A w2n w2c w2 hn5 hown5 hgb5; have HP1 := hide (HPA.out.put hgb5 hown5); clear hown5 hgb5 hn5; have HQ := hide (O1.out.below HP1.out.fr l1); obtain ⟨uq, hq1, hq2⟩ := HQ.out.srcInts; have HQ1 := hide hq1; have HQ2 := hide hq2; clear hq1 hq2; have x5 := (HX.out.below HP1.out.fr HX.out.lt).cell 5; have xl := (HX.out.below HP1.out.fr HX.out.lt).lt) | fail)
    have HB5 := hide (show Below w1.heap.size w1 w5 from HP5.out.fr)
    obtain ⟨L1, hL1⟩ : ∃ L1, L1 = ([] ++ [x.next - 1]) ++ x.queue := ⟨_, rfl⟩
    rw [← hL1] at HP5
    have HL1 := hide hL1
    have hl1l : L1.length ≤ 9 := by rw [hL1]; simp; omega
    have HX5 := hide (HX.out.below HB5.out HX.out.lt)
    clear HQ HQ1 HQ2 x5 xl hL1 HP1
    have x6 := HX5.out.cell 6
    have xl := HX5.out.lt
    go_wp2_with fail
    go_loopw [3, 4] (fun s i wr => ∃ (j : Nat) (E : Option Addr) (en ec : Nat) (ue : List Value), i = .int .i64 j ∧ j ≤ x.hands.length ∧ s = .slice E en ec ∧ Pl w1.heap.size w1 wr (.slice E en ec) (L1 ++ handJobs (x.hands.take j)) ue) (fun _ i _ => x.hands.length - (intOf i).toNat)
    case atStart => exact ⟨0, _, _, _, _, rfl, Nat.zero_le _, rfl, HP5.out.same (by simp [handJobs])⟩
    case round =>
      obtain ⟨j, E, en, ec, ue, rfl, hj, rfl, hp⟩ := hrel
      have HPR := hide hp
      have HXR := hide (HX.out.below hp.fr HX.out.lt)
      have HHR := hide (O2.out.below hp.fr l2)
      have hwr : w1.heap.size ≤ wr.heap.size := hp.sz
      have hjl : (handJobs (x.hands.take j)).length ≤ 8 := Nat.le_trans (handJobs_len _) (by rw [List.length_take]; omega)
      clear hp HP5 x6 xl
      have x6 := HXR.out.cell 6
      have xl := HXR.out.lt
      by_cases hlt : j < x.hands.length
      · have hji : (j : Int) < (x.hands.length : Int) := by omega
        obtain ⟨g, off, ws, fi, rfl, hg, hfi, hwl, hcs, hov⟩ := HHR.out.elem CrewHand.cells_len hlt
        have hgl : g < w1.heap.size := l2 g hg
        have hgw : g < wr.heap.size := by omega
        obtain ⟨rfl, -, wjob, -⟩ := hov.oCrewHand
        have p0 := hcs 0 _ rfl
        have p1 := hcs 1 _ rfl
        simp only [Nat.add_zero] at p0
        have HSN := hide (handJobs_snoc x.hands j hlt)
        clear hcs hov
        generalize x.hands[j] = y at *
        have HBZ := hide (busy_eq y)
        by_cases hb : y.state = 1 ∨ y.state = 2
        · have HS2 := hide (show (L1 ++ handJobs (x.hands.take j)) ++ [y.job] = L1 ++ handJobs (x.hands.take (j + 1)) from by rw [HSN.out, if_pos (HBZ.out.2 hb), List.append_assoc])
          have HPA := hide (HPR.out.alloc (.cells #[.int .i64 y.job] 3))
          by_cases h1 : y.state = 1
          case' pos => clear hb
          case' neg => have h2 : y.state = 2 := hb.resolve_left h1
          all_goals
            go_wp2_with (first | (at_builtin; refine wpl_app rfl _ _ 22 rfl ia _ 8 Try.underlying22 HIa.out ja0 ja1 ja2 rfl (by decide) intC_len rfl HPA.out.own [y.job] (int_src y.job wjob _) (by exact New.nil _ _) (fun q _ hq => by cases hq) _ _ _ rfl rfl (SrcAt.new wr _ _ _ _) (by first | omega | (simp only [List.length_append, List.length_take, List.length_singleton, List.length_nil, List.length_cons]; omega)) (by decide) HPA.out.sz ?_; intro w5A w5n w5c w5 hn5 hown5 hgb5; have HP5 := hide (HPA.out.put hgb5 hown5); clear hown5 hgb5 hn5) | fail)
            go_roundw
            case rel => exact ⟨j + 1, _, _, _, _, by go_num, by omega, rfl, HP5.out.same HS2.out⟩
            case measure => simp [intOf]; omega
        · have h1 : ¬ (y.state = 1) := fun h => hb (.inl h)
          have h2 : ¬ (y.state = 2) := fun h => hb (.inr h)
          have d1 : decide (y.state = 1) = false := by simpa using h1
          have d2 : decide (y.state = 2) = false := by simpa using h2
          have e1 : (y.state == 1) = false := by simpa using h1
          have e2 : (y.state == 2) = false := by simpa using h2
          have HS2 := hide (show L1 ++ handJobs (x.hands.take j) = L1 ++ handJobs (x.hands.take (j + 1)) from by rw [HSN.out, if_neg (fun h => hb (HBZ.out.1 h)), List.append_nil])
          clear hb
          go_wp2
          go_roundw
          case rel => exact ⟨j + 1, _, _, _, _, by go_num, by omega, rfl, HPR.out.same HS2.out⟩
          case measure => simp [intOf]; omega
      · obtain rfl : j = x.hands.length := by omega
        have hji : ¬ ((x.hands.length : Int) < (x.hands.length : Int)) := by omega
        obtain ⟨w3, rfl⟩ : ∃ W, W = wr := ⟨_, rfl⟩
        have HR := hide (O3.out.below HPR.out.fr l3)
        obtain ⟨uq, hq1, hq2⟩ := HR.out.srcInts
        have HQ1 := hide hq1
        have HQ2 := hide hq2
        have x8 := HXR.out.cell 8
        rw [List.take_length] at HPR hjl
        clear hq1 hq2
        go_wp2_with (first | (at_builtin; refine wpl_app rfl _ _ 22 rfl ia _ 8 Try.underlying22 HIa.out ja0 ja1 ja2 rfl (by decide) intC_len rfl HPR.out.own x.results HQ1.out (by exact New.nil _ _) (fun q _ hq => by cases hq) _ _ _ rfl rfl HQ2.out (by first | omega | (simp only [List.length_append, List.length_take, List.length_singleton, List.length_nil, List.length_cons]; omega)) (by decide) HPR.out.sz ?_; intro w5A w5n w5c w5 hn5 hown5 hgb5; have HP5 := hide (HPR.out.put hgb5 hown5); clear hown5 hgb5 hn5) | fail)
        obtain ⟨L2, hL2⟩ : ∃ L2, L2 = L1 ++ handJobs x.hands ++ x.results := ⟨_, rfl⟩
        rw [← hL2] at HP5
        have HL2 := hide hL2
        have hl2l : L2.length ≤ 25 := by rw [hL2]; simp only [List.length_append]; omega
        have HX5 := hide (HX.out.below HP5.out.fr HX.out.lt)
        clear HQ1 HQ2 x6 x8 xl hL2 HPR HXR HHR HR hwr
        have x10 := HX5.out.cell 10
        have xl := HX5.out.lt
        go_wp2_with fail
        go_loopw [3, 5] (fun s i wr => ∃ (j : Nat) (E : Option Addr) (en ec : Nat) (ue : List Value), i = .int .i64 j ∧ j ≤ x.ring.length ∧ s = .slice E en ec ∧ Pl w1.heap.size w1 wr (.slice E en ec) (L2 ++ (x.ring.take j).filter (fun j => decide (0 ≤ j))) ue) (fun _ i _ => x.ring.length - (intOf i).toNat)
        case atStart => exact ⟨0, _, _, _, _, rfl, Nat.zero_le _, rfl, HP5.out.same (by simp)⟩
        case round =>
          obtain ⟨i, E, en, ec, ue, rfl, hi, rfl, hp⟩ := hrel
          have HPR := hide hp
          have HXR := hide (HX.out.below hp.fr HX.out.lt)
          have HRR := hide (O4.out.below hp.fr l4)
          have hwr : w1.heap.size ≤ wr.heap.size := hp.sz
          have hfl : ((x.ring.take i).filter (fun j => decide (0 ≤ j))).length ≤ 16 := Nat.le_trans (List.length_filter_le _ _) (by rw [List.length_take]; omega)
          clear hp HP5 x10 xl
          have x10 := HXR.out.cell 10
          have xl := HXR.out.lt
          by_cases hlt : i < x.ring.length
          · have hii : (i : Int) < (x.ring.length : Int) := by omega
            obtain ⟨g, off, rfl, hg, hcell, wz⟩ := ints_at HRR.out hlt
            have hgl : g < w1.heap.size := l4 g hg
            have hgw : g < wr.heap.size := by omega
            have HSN := hide (filter_snoc (fun j => decide ((0 : Int) ≤ j)) x.ring i hlt)
            generalize x.ring[i] = y at *
            by_cases hy : 0 ≤ y
            · have HS2 := hide (show (L2 ++ (x.ring.take i).filter (fun j => decide (0 ≤ j))) ++ [y] = L2 ++ (x.ring.take (i + 1)).filter (fun j => decide (0 ≤ j)) from by rw [HSN.out, if_pos (by simpa using hy), List.append_assoc])
              have HPA := hide (HPR.out.alloc (.cells #[.int .i64 y] 3))
              go_wp2_with (first | (at_builtin; refine wpl_app rfl _ _ 22 rfl ia _ 8 Try.underlying22 HIa.out ja0 ja1 ja2 rfl (by decide) intC_len rfl HPA.out.own [y] (int_src y wz _) (by exact New.nil _ _) (fun q _ hq => by cases hq) _ _ _ rfl rfl (SrcAt.new wr _ _ _ _) (by first | omega | (simp only [List.length_append, List.length_take, List.length_singleton, List.length_nil, List.length_cons]; omega)) (by decide) HPA.out.sz ?_; intro w5A w5n w5c w5 hn5 hown5 hgb5; have HP5 := hide (HPA.out.put hgb5 hown5); clear hown5 hgb5 hn5) | fail)
              go_roundw
              case rel => exact ⟨i + 1, _, _, _, _, by go_num, by omega, rfl, HP5.out.same HS2.out⟩
              case measure => simp [intOf]; omega
            · have HS2 := hide (show L2 ++ (x.ring.take i).filter (fun j => decide (0 ≤ j)) = L2 ++ (x.ring.take (i + 1)).filter (fun j => decide (0 ≤ j)) from by rw [HSN.out, if_neg (by simpa using hy), List.append_nil])
              go_wp2
              go_roundw
              case rel => exact ⟨i + 1, _, _, _, _, by go_num, by omega, rfl, HPR.out.same HS2.out⟩
              case measure => simp [intOf]; omega
          · obtain rfl : i = x.ring.length := by omega
            have hii : ¬ ((x.ring.length : Int) < (x.ring.length : Int)) := by omega
            have HV := hide (show L2 ++ (x.ring.take x.ring.length).filter (fun j => decide (0 ≤ j)) = x.places from by
              rw [List.take_length, HL2.out, HL1.out]
              unfold CrewWorld.places
              rw [HSENT.out])
            go_wp2
            go_ret
            exact (HPR.out.same HV.out).out HB.out HB.out.size
  · have HSENT := hide (show x.sent = [] from by unfold CrewWorld.sent; rw [if_neg hrd])
    have HQ := hide (O1.out.below HP0.out.fr l1)
    obtain ⟨uq, hq1, hq2⟩ := HQ.out.srcInts
    have HQ1 := hide hq1
    have HQ2 := hide hq2
    clear hq1 hq2
    go_wp2_with (first | (at_builtin; refine wpl_app rfl _ _ 22 rfl ia _ 8 Try.underlying22 HIa.out ja0 ja1 ja2 rfl (by decide) intC_len rfl HP0.out.own x.queue HQ1.out (by exact New.nil _ _) (fun q _ hq => by cases hq) _ _ _ rfl rfl HQ2.out (by first | omega | (simp only [List.length_append, List.length_take, List.length_singleton, List.length_nil, List.length_cons]; omega)) (by decide) HP0.out.sz ?_; intro w5A w5n w5c w5 hn5 hown5 hgb5; have HP5 := hide (HP0.out.put hgb5 hown5); clear hown5 hgb5 hn5) | fail)
    have HB5 := hide (show Below w1.heap.size w1 w5 from HP5.out.fr)
    obtain ⟨L1, hL1⟩ : ∃ L1, L1 = ([] : List Int) ++ x.queue := ⟨_, rfl⟩
    rw [← hL1] at HP5
    have HL1 := hide hL1
    have hl1l : L1.length ≤ 9 := by rw [hL1]; simp; omega
    have HX5 := hide (HX.out.below HB5.out HX.out.lt)
    clear HQ HQ1 HQ2 x5 xl hL1 HP0
    have x6 := HX5.out.cell 6
    have xl := HX5.out.lt
    go_wp2_with fail
    go_loopw [3, 4] (fun s i wr => ∃ (j : Nat) (E : Option Addr) (en ec : Nat) (ue : List Value), i = .int .i64 j ∧ j ≤ x.hands.length ∧ s = .slice E en ec ∧ Pl w1.heap.size w1 wr (.slice E en ec) (L1 ++ handJobs (x.hands.take j)) ue) (fun _ i _ => x.hands.length - (intOf i).toNat)
    case atStart => exact ⟨0, _, _, _, _, rfl, Nat.zero_le _, rfl, HP5.out.same (by simp [handJobs])⟩
    case round =>
      obtain ⟨j, E, en, ec, ue, rfl, hj, rfl, hp⟩ := hrel
      have HPR := hide hp
      have HXR := hide (HX.out.below hp.fr HX.out.lt)
      have HHR := hide (O2.out.below hp.fr l2)
      have hwr : w1.heap.size ≤ wr.heap.size := hp.sz
      have hjl : (handJobs (x.hands.take j)).length ≤ 8 := Nat.le_trans (handJobs_len _) (by rw [List.length_take]; omega)
      clear hp HP5 x6 xl
      have x6 := HXR.out.cell 6
      have xl := HXR.out.lt
      by_cases hlt : j < x.hands.length
      · have hji : (j : Int) < (x.hands.length : Int) := by omega
        obtain ⟨g, off, ws, fi, rfl, hg, hfi, hwl, hcs, hov⟩ := HHR.out.elem CrewHand.cells_len hlt
        have hgl : g < w1.heap.size := l2 g hg
        have hgw : g < wr.heap.size := by omega
        obtain ⟨rfl, -, wjob, -⟩ := hov.oCrewHand
        have p0 := hcs 0 _ rfl
        have p1 := hcs 1 _ rfl
        simp only [Nat.add_zero] at p0
        have HSN := hide (handJobs_snoc x.hands j hlt)
        clear hcs hov
        generalize x.hands[j] = y at *
        have HBZ := hide (busy_eq y)
        by_cases hb : y.state = 1 ∨ y.state = 2
        · have HS2 := hide (show (L1 ++ handJobs (x.hands.take j)) ++ [y.job] = L1 ++ handJobs (x.hands.take (j + 1)) from by rw [HSN.out, if_pos (HBZ.out.2 hb), List.append_assoc])
          have HPA := hide (HPR.out.alloc (.cells #[.int .i64 y.job] 3))
          by_cases h1 : y.state = 1
          case' pos => clear hb
          case' neg => have h2 : y.state = 2 := hb.resolve_left h1
          all_goals
            go_wp2_with (first | (at_builtin; refine wpl_app rfl _ _ 22 rfl ia _ 8 Try.underlying22 HIa.out ja0 ja1 ja2 rfl (by decide) intC_len rfl HPA.out.own [y.job] (int_src y.job wjob _) (by exact New.nil _ _) (fun q _ hq => by cases hq) _ _ _ rfl rfl (SrcAt.new wr _ _ _ _) (by first | omega | (simp only [List.length_append, List.length_take, List.length_singleton, List.length_nil, List.length_cons]; omega)) (by decide) HPA.out.sz ?_; intro w5A w5n w5c w5 hn5 hown5 hgb5; have HP5 := hide (HPA.out.put hgb5 hown5); clear hown5 hgb5 hn5) | fail)
            go_roundw
            case rel => exact ⟨j + 1, _, _, _, _, by go_num, by omega, rfl, HP5.out.same HS2.out⟩
            case measure => simp [intOf]; omega
        · have h1 : ¬ (y.state = 1) := fun h => hb (.inl h)
          have h2 : ¬ (y.state = 2) := fun h => hb (.inr h)
          have d1 : decide (y.state = 1) = false := by simpa using h1
          have d2 : decide (y.state = 2) = false := by simpa using h2
          have e1 : (y.state == 1) = false := by simpa using h1
          have e2 : (y.state == 2) = false := by simpa using h2
          have HS2 := hide (show L1 ++ handJobs (x.hands.take j) = L1 ++ handJobs (x.hands.take (j + 1)) from by rw [HSN.out, if_neg (fun h => hb (HBZ.out.1 h)), List.append_nil])
          clear hb
          go_wp2
          go_roundw
          case rel => exact ⟨j + 1, _, _, _, _, by go_num, by omega, rfl, HPR.out.same HS2.out⟩
          case measure => simp [intOf]; omega
      · obtain rfl : j = x.hands.length := by omega
        have hji : ¬ ((x.hands.length : Int) < (x.hands.length : Int)) := by omega
        obtain ⟨w3, rfl⟩ : ∃ W, W = wr := ⟨_, rfl⟩
        have HR := hide (O3.out.below HPR.out.fr l3)
        obtain ⟨uq, hq1, hq2⟩ := HR.out.srcInts
        have HQ1 := hide hq1
        have HQ2 := hide hq2
        have x8 := HXR.out.cell 8
        rw [List.take_length] at HPR hjl
        clear hq1 hq2
        go_wp2_with (first | (at_builtin; refine wpl_app rfl _ _ 22 rfl ia _ 8 Try.underlying22 HIa.out ja0 ja1 ja2 rfl (by decide) intC_len rfl HPR.out.own x.results HQ1.out (by exact New.nil _ _) (fun q _ hq => by cases hq) _ _ _ rfl rfl HQ2.out (by first | omega | (simp only [List.length_append, List.length_take, List.length_singleton, List.length_nil, List.length_cons]; omega)) (by decide) HPR.out.sz ?_; intro w5A w5n w5c w5 hn5 hown5 hgb5; have HP5 := hide (HPR.out.put hgb5 hown5); clear hown5 hgb5 hn5) | fail)
        obtain ⟨L2, hL2⟩ : ∃ L2, L2 = L1 ++ handJobs x.hands ++ x.results := ⟨_, rfl⟩
        rw [← hL2] at HP5
        have HL2 := hide hL2
        have hl2l : L2.length ≤ 25 := by rw [hL2]; simp only [List.length_append]; omega
        have HX5 := hide (HX.out.below HP5.out.fr HX.out.lt)
        clear HQ1 HQ2 x6 x8 xl hL2 HPR HXR HHR HR hwr
        have x10 := HX5.out.cell 10
        have xl := HX5.out.lt
        go_wp2_with fail
        go_loopw [3, 5] (fun s i wr => ∃ (j : Nat) (E : Option Addr) (en ec : Nat) (ue : List Value), i = .int .i64 j ∧ j ≤ x.ring.length ∧ s = .slice E en ec ∧ Pl w1.heap.size w1 wr (.slice E en ec) (L2 ++ (x.ring.take j).filter (fun j => decide (0 ≤ j))) ue) (fun _ i _ => x.ring.length - (intOf i).toNat)
        case atStart => exact ⟨0, _, _, _, _, rfl, Nat.zero_le _, rfl, HP5.out.same (by simp)⟩
        case round =>
          obtain ⟨i, E, en, ec, ue, rfl, hi, rfl, hp⟩ := hrel
          have HPR := hide hp
          have HXR := hide (HX.out.below hp.fr HX.out.lt)
          have HRR := hide (O4.out.below hp.fr l4)
          have hwr : w1.heap.size ≤ wr.heap.size := hp.sz
          have hfl : ((x.ring.take i).filter (fun j => decide (0 ≤ j))).length ≤ 16 := Nat.le_trans (List.length_filter_le _ _) (by rw [List.length_take]; omega)
          clear hp HP5 x10 xl
          have x10 := HXR.out.cell 10
          have xl := HXR.out.lt
          by_cases hlt : i < x.ring.length
          · have hii : (i : Int) < (x.ring.length : Int) := by omega
            obtain ⟨g, off, rfl, hg, hcell, wz⟩ := ints_at HRR.out hlt
            have hgl : g < w1.heap.size := l4 g hg
            have hgw : g < wr.heap.size := by omega
            have HSN := hide (filter_snoc (fun j => decide ((0 : Int) ≤ j)) x.ring i hlt)
            generalize x.ring[i] = y at *
            by_cases hy : 0 ≤ y
            · have HS2 := hide (show (L2 ++ (x.ring.take i).filter (fun j => decide (0 ≤ j))) ++ [y] = L2 ++ (x.ring.take (i + 1)).filter (fun j => decide (0 ≤ j)) from by rw [HSN.out, if_pos (by simpa using hy), List.append_assoc])
              have HPA := hide (HPR.out.alloc (.cells #[.int .i64 y] 3))
              go_wp2_with (first | (at_builtin; refine wpl_app rfl _ _ 22 rfl ia _ 8 Try.underlying22 HIa.out ja0 ja1 ja2 rfl (by decide) intC_len rfl HPA.out.own [y] (int_src y wz _) (by exact New.nil _ _) (fun q _ hq => by cases hq) _ _ _ rfl rfl (SrcAt.new wr _ _ _ _) (by first | omega | (simp only [List.length_append, List.length_take, List.length_singleton, List.length_nil, List.length_cons]; omega)) (by decide) HPA.out.sz ?_; intro w5A w5n w5c w5 hn5 hown5 hgb5; have HP5 := hide (HPA.out.put hgb5 hown5); clear hown5 hgb5 hn5) | fail)
              go_roundw
              case rel => exact ⟨i + 1, _, _, _, _, by go_num, by omega, rfl, HP5.out.same HS2.out⟩
              case measure => simp [intOf]; omega
            · have HS2 := hide (show L2 ++ (x.ring.take i).filter (fun j => decide (0 ≤ j)) = L2 ++ (x.ring.take (i + 1)).filter (fun j => decide (0 ≤ j)) from by rw [HSN.out, if_neg (by simpa using hy), List.append_nil])
              go_wp2
              go_roundw
              case rel => exact ⟨i + 1, _, _, _, _, by go_num, by omega, rfl, HPR.out.same HS2.out⟩
              case measure => simp [intOf]; omega
          · obtain rfl : i = x.ring.length := by omega
            have hii : ¬ ((x.ring.length : Int) < (x.ring.length : Int)) := by omega
            have HV := hide (show L2 ++ (x.ring.take x.ring.length).filter (fun j => decide (0 ≤ j)) = x.places from by
              rw [List.take_length, HL2.out, HL1.out]
              unfold CrewWorld.places
              rw [HSENT.out])
            go_wp2
            go_ret
            exact (HPR.out.same HV.out).out HB.out HB.out.size
end Go.Proofs.Ytpkjjfnfolbcoaa
