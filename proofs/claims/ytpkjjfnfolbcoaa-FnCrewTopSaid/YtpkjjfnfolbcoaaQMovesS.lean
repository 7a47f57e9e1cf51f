/-
  The moves of a world: the reference.
-/
import Derived.Test.YtpkjjfnfolbcoaaQWays
import Derived.Test.YtpkjjfnfolbcoaaQTri
import Derived.Test.YtpkjjfnfolbcoaaQWaysV
set_option linter.unusedVariables false
set_option linter.unusedSimpArgs false
namespace Go.Proofs.Ytpkjjfnfolbcoaa
open Go.ChangeShapes Go.WideShapes Go.ChangeAt Go.RowKit

set_option maxRecDepth 100000 in
set_option maxHeartbeats 4000000 in
theorem specCrewMoves_any (x : CrewWorld) (us : List Value) (fp : List Nat) (w : World) (ho : OwC w x.cells us fp) (hf : Lt fp w.heap.size) (hgl : x.got.length ≤ 1048576) : Calls Try.prog 37 #[.agg us.toArray] w (MovesOut x.movesOf w) := by
  have HO := hide ho
  have HF := hide hf
  obtain ⟨A1, c1, A2, c2, A3, c3, A4, c4, A5, c5, A6, c6, A7, c7, f1, f2, f3, f4, f5, f6, f7, rfl, wjobs, wworkers, wwindow, wnext, wreader, o1, o2, wcloser, o3, wkeeper, o4, wdue, o5, wuser, o6, wroom, o7, wops, rfl⟩ := ho.oCrewWorld
  clear ho
  go_enter Try.func37, Try.ntmps37
  go_upto_region 1 with fail
  generalize hw1 : w.alloc _ = w1
  have hb0 : Below w.heap.size w w1 := by rw [← hw1]; exact (Below.refl _ _).alloc (Nat.le_refl _) _
  have HX := hide (show Row w1 w.heap.size 30 [.int .i64 x.jobs, .int .i64 x.workers, .int .i64 x.window, .int .i64 x.next, .int .i64 x.reader, .slice A1 x.queue.length c1, .slice A2 x.hands.length c2, .int .i64 x.closer, .slice A3 x.results.length c3, .int .i64 x.keeper, .slice A4 x.ring.length c4, .int .i64 x.due, .slice A5 x.out.length c5, .int .i64 x.user, .slice A6 x.got.length c6, .int .i64 x.room, .slice A7 x.shut.length c7, .int .i64 x.ops] from by rw [← hw1]; exact Row.new w _ _)
  have HB := hide hb0
  have HOW := hide (HO.out.below hb0 hf)
  have HFW := hide (hf.up hb0)
  clear hw1 hb0 HO o1 o2 o3 o4 o5 o6 o7
  have x1 := HX.out.cell 1
  have xl := HX.out.lt
  clear x1
  have HP0 := hide (Pm.empty w1)
  have hb1 : Below w1.heap.size w1 (w1.alloc (.cells #[] 97)) := (Below.refl _ _).alloc (Nat.le_refl _) _
  have HC := hide (specCrewOk_any x _ _ (w1.alloc (.cells #[] 97)) (HOW.out.below hb1 HFW.out) (HFW.out.up hb1) hgl)
  have HX1 := hide (HX.out.below hb1 HX.out.lt)
  have xl1 := HX1.out.lt
  obtain ⟨ia, hia, ja0, ja1, ja2⟩ := info_parts info_move
  have HIa := hide hia
  clear hia
  go_wp2_with (first | (refine wpList_load_row rfl 30 _ rfl w.heap.size rfl 30 ([.int .i64 x.jobs, .int .i64 x.workers, .int .i64 x.window, .int .i64 x.next, .int .i64 x.reader, .slice A1 x.queue.length c1, .slice A2 x.hands.length c2, .int .i64 x.closer, .slice A3 x.results.length c3, .int .i64 x.keeper, .slice A4 x.ring.length c4, .int .i64 x.due, .slice A5 x.out.length c5, .int .i64 x.user, .slice A6 x.got.length c6, .int .i64 x.room, .slice A7 x.shut.length c7, .int .i64 x.ops] : List Value).toArray (0, 0) _ HX1.out Try.underlying30 rfl info_crew ?_) | fail)
  refine HC.out.mono ?_
  rintro e w2 ⟨rfl, hb2⟩
  have hbs : Below (w1.alloc (.cells #[] 97)).heap.size (w1.alloc (.cells #[] 97)) w2 := hb2
  have HP2 := hide (HP0.out.below hbs)
  clear HP0 hb1 HC HX1 hbs hb2 xl1 xl
  by_cases hok : x.ok
  rotate_left
  · rw [tb_false hok]
    have HZ := hide (show x.movesOf = [] from by unfold CrewWorld.movesOf; rw [if_neg (by rw [tb_false hok]; simp)])
    clear hok
    go_wp2
    go_ret
    rw [HZ.out]
    exact HP2.out.out HB.out HB.out.size
  rw [tb_true hok]
  have HZ := hide (show x.movesOf = x.movesTo (x.workers.toNat + 4) from by unfold CrewWorld.movesOf; rw [if_pos (tb_true hok)]; rfl)
  have HFM := hide hok.form
  have hww := hok.form.start.2.1
  clear hok
  have v3 : IntKind.i64.wrap (x.workers + 3) = x.workers + 3 := wrapI _ (by omega) (by omega)
  have u3 : wrap64 (x.workers + 3) = x.workers + 3 := by unfold wrap64; omega
  have hwn : (x.workers.toNat : Int) = x.workers := by omega
  have HWN := hide hwn
  clear hwn
  go_wp2_with fail
  go_loopw [3, 4] (fun s i wr => ∃ (n : Nat) (E : Option Addr) (en ec : Nat) (ue : List Value), i = .int .i64 n ∧ n ≤ x.workers.toNat + 4 ∧ s = .slice E en ec ∧ Pm w1.heap.size w1 wr (.slice E en ec) (x.movesTo n) ue) (fun _ i _ => x.workers.toNat + 4 - (intOf i).toNat)
  case atStart => exact ⟨0, _, _, _, _, rfl, Nat.zero_le _, rfl, HP2.out.same (by simp [CrewWorld.movesTo])⟩
  case round =>
    obtain ⟨n, E, en, ec, ue, rfl, hn, rfl, hp⟩ := hrel
    have HPR := hide hp
    have HXR := hide (HX.out.below hp.fr HX.out.lt)
    have hml := movesTo_len x n
    clear hp
    have x1 := HXR.out.cell 1
    have xl := HXR.out.lt
    by_cases hlt : n < x.workers.toNat + 4
    · have hle : (n : Int) ≤ x.workers + 3 := by have := HWN.out; omega
      have d1 : decide ((n : Int) ≤ x.workers + 3) = true := dec_true hle
      have hnb : (Lit.int .i64 (n : Int)).wf = true := WalkArith.wf_i64 (by omega)
      have HC := hide (l52Ways_any x _ _ wr (HOW.out.below HPR.out.fr HFW.out) (HFW.out.up HPR.out.fr) HFM.out n hle)
      have hle9 : n ≤ 12 := by have := HWN.out; omega
      go_wp2_with (first | (refine wpList_load_row rfl 30 _ rfl w.heap.size rfl 30 ([.int .i64 x.jobs, .int .i64 x.workers, .int .i64 x.window, .int .i64 x.next, .int .i64 x.reader, .slice A1 x.queue.length c1, .slice A2 x.hands.length c2, .int .i64 x.closer, .slice A3 x.results.length c3, .int .i64 x.keeper, .slice A4 x.ring.length c4, .int .i64 x.due, .slice A5 x.out.length c5, .int .i64 x.user, .slice A6 x.got.length c6, .int .i64 x.room, .slice A7 x.shut.length c7, .int .i64 x.ops] : List Value).toArray (0, 0) _ HXR.out Try.underlying30 rfl info_crew ?_) | fail)
      refine HC.out.mono ?_
      rintro e w4 ⟨g, rfl, hg, hr, hb4⟩
      have HPW := hide (HPR.out.below hb4)
      have HRW := hide hr
      have hne0 : (Value.slice E en ec).ownBlock ≠ some g := fun e => by have := HPR.out.own.lt g e; omega
      have hwl := ways_len x n
      obtain ⟨l, hl⟩ : ∃ l, l = x.ways n := ⟨_, rfl⟩
      have HL := hide hl
      rw [← hl] at HRW hwl ⊢
      clear hl hr hb4 HC HPR x1 xl HXR hg
      go_wp2_with fail
      go_loopw [3, 6] (fun s i wz => ∃ (j : Nat) (E : Option Addr) (en ec : Nat) (ue : List Value), i = .int .i64 j ∧ j ≤ l.length ∧ s = .slice E en ec ∧ Pm w1.heap.size w1 wz (.slice E en ec) (x.movesTo n ++ movesBy n 0 (l.take j)) ue ∧ Row wz g 4 (l.map Value.bool) ∧ (Value.slice E en ec).ownBlock ≠ some g) (fun _ i _ => l.length - (intOf i).toNat)
      case atStart => exact ⟨0, _, _, _, _, rfl, Nat.zero_le _, rfl, HPW.out.same (by simp [movesBy]), HRW.out, hne0⟩
      case round =>
        obtain ⟨j, E2, en2, ec2, ue2, rfl, hj, rfl, hp2, hrw, hne⟩ := hrel
        have HP2 := hide hp2
        have HR2 := hide hrw
        have HNE := hide hne
        have hbl := movesBy_len n (l.take j) 0
        have htl : (l.take j).length ≤ 3 := by rw [List.length_take]; omega
        clear hp2 hrw hne
        by_cases hjl : j < l.length
        · have hjI : (j : Int) < (l.length : Int) := by omega
          have hj0 : (0 : Int) ≤ (j : Int) := by omega
          have hjb : (Lit.int .i64 (j : Int)).wf = true := WalkArith.wf_i64 (by omega)
          have b0 : wr.cell? ⟨g, j, none⟩ = some (.bool l[j]) := by rw [HR2.out.cell j]; simp [hjl]
          have gl := HR2.out.lt
          have HSN := hide (movesBy_snoc n l 0 j hjl)
          generalize l[j] = q at *
          cases q
          · have HS := hide (show x.movesTo n ++ movesBy n 0 (l.take j) = x.movesTo n ++ movesBy n 0 (l.take (j + 1)) from by rw [HSN.out]; simp)
            go_wp2
            go_roundw
            case rel => exact ⟨j + 1, _, _, _, _, by go_num, by omega, rfl, HP2.out.same HS.out, HR2.out, HNE.out⟩
            case measure => simp [intOf]; omega
          · have HS := hide (show (x.movesTo n ++ movesBy n 0 (l.take j)) ++ [(⟨(n : Int), (j : Int)⟩ : CrewMove)] = x.movesTo n ++ movesBy n 0 (l.take (j + 1)) from by rw [HSN.out]; simp)
            have HPA := hide (HP2.out.alloc (.cells #[.int .i64 (n : Int), .int .i64 (j : Int)] 97))
            have HRA := hide (HR2.out.alloc (.cells #[.int .i64 (n : Int), .int .i64 (j : Int)] 97))
            have gla : g < (wr.alloc (.cells #[.int .i64 (n : Int), .int .i64 (j : Int)] 97)).heap.size := HRA.out.lt
            go_wp2_with (first | (at_builtin; refine wpl_app rfl _ _ 57 rfl ia _ 16 Try.underlying57 HIa.out ja0 ja1 ja2 rfl (by decide) CrewMove.cells_len rfl HPA.out.own [(⟨(n : Int), (j : Int)⟩ : CrewMove)] (move_src _ _ hnb hjb _) (by exact New.nil _ _) (fun q _ hq => by cases hq) _ _ _ rfl rfl (SrcAt.new wr _ _ _ _) (by first | omega | (simp only [List.length_append, List.length_take, List.length_singleton, List.length_nil, List.length_cons]; omega)) (by decide) HPA.out.sz ?_; intro w5A w5n w5c w5 hn5 hown5 hgb5; have HP5 := hide (HPA.out.put hgb5 hown5); have HGB := hide hgb5; clear hown5 hgb5 hn5) | fail)
            go_roundw
            case rel => exact ⟨j + 1, _, _, _, _, by go_num, by omega, rfl, HP5.out.same HS.out, HGB.out.row HRA.out HNE.out, HGB.out.ne7 HNE.out gla⟩
            case measure => simp [intOf]; omega
        · obtain rfl : j = l.length := by omega
          have hjI : ¬ ((l.length : Int) < (l.length : Int)) := by omega
          have HS := hide (show x.movesTo n ++ movesBy n 0 (l.take l.length) = x.movesTo (n + 1) from by rw [List.take_length, movesTo_succ, HL.out])
          go_wp2
          go_roundw
          case rel => exact ⟨n + 1, _, _, _, _, by go_num, by omega, rfl, HP2.out.same HS.out⟩
          case measure => simp [intOf]; omega
    · obtain rfl : n = x.workers.toNat + 4 := by omega
      have d1 : decide (((x.workers.toNat + 4 : Nat) : Int) ≤ x.workers + 3) = false := dec_false (by have := HWN.out; omega)
      have d2 : decide ((x.workers.toNat : Int) + 4 ≤ x.workers + 3) = false := dec_false (by have := HWN.out; omega)
      go_wp2
      go_ret
      rw [HZ.out]
      exact HPR.out.out HB.out HB.out.size
end Go.Proofs.Ytpkjjfnfolbcoaa
