/-
  What jobs tell: the reference's l53Told and the program's told.
-/
import Derived.Deep.RegionHeld3
import Derived.Deep.RegionLaw
import Derived.Test.YtpkjjfnfolbcoaaQTwo
import Derived.Test.YtpkjjfnfolbcoaaQRead
set_option linter.unusedVariables false
set_option linter.unusedSimpArgs false
namespace Go.Proofs.Ytpkjjfnfolbcoaa
open Go.ChangeShapes Go.WideShapes Go.ChangeAt Go.RowKit

theorem info_CrewDead' : (Try.prog.info? 114).map (fun i => (i.zero, i.size, i.bytes)) = some (some (.agg #[.int .i64 0, .int .i64 0]), 2, 16) := by kernel_rfl
abbrev toldMk (n : Nat) : Value → Value → List Value := fun a b => [.bool true, a, b, .int .i64 (n : Int), .int .i64 0, .int .i64 0]
/-- the told so far, in its block -/
def ToldAt (w wr : World) (l : List CrewJob) (j : Nat) : Prop :=
  ∃ (A1 : Option Addr) (n1 c1 : Nat) (A2 : Option Addr) (n2 c2 : Nat) (us1 us2 : List Value), Two wr (w.heap.size + 1) (w.heap.size + 2) 45 (toldMk l.length) 3 1 intC (.slice A1 n1 c1) (toldItems (l.take j)) us1 [] 114 2 CrewDead.cells (.slice A2 n2 c2) (toldDead (l.take j)) us2 []
theorem toldAt_zero (w wr : World) (l : List CrewJob) (h : Row wr (w.heap.size + 1) 45 [.bool true, .slice none 0 0, .slice none 0 0, .int .i64 (l.length : Int), .int .i64 0, .int .i64 0]) : ToldAt w wr l 0 :=
  ⟨none, 0, 0, none, 0, 0, [], [], h, OwS.nil _ _ _ _ _, OwS.nil _ _ _ _ _, by omega, fun g h => (by cases h), fun g h => (by cases h), fun g h => (by cases h), fun g h => (by cases h)⟩
def ToldRet (l : List CrewJob) (w : World) (e : Ending) (w' : World) : Prop := ∃ us fq, e = .returned (.agg us.toArray) ∧ OwC w' (toldOf l).cells us fq ∧ New w' fq w.heap.size ∧ Below w.heap.size w w'
theorem dead_src (k : Nat) (x : CrewJob) (hk : k ≤ 60) (hx : (Lit.int .i64 x.bad).wf = true) (w : World) : OwC w ([(⟨(k : Int), x.bad⟩ : CrewDead)].flatMap CrewDead.cells) [.int .i64 (k : Int), .int .i64 x.bad] [] := by
  rw [List.flatMap_singleton]
  exact OwC.mCrewDead (x := ⟨(k : Int), x.bad⟩) (show (Lit.int .i64 (k : Int)).wf = true from WalkArith.wf_i64 (by omega)) hx

set_option maxRecDepth 100000 in
set_option maxHeartbeats 1000000 in
theorem told_any (l : List CrewJob) (A : Option Addr) (n c : Nat) (fp : List Nat) (w : World) (h : Ow w (.s 2 l.length (l.flatMap CrewJob.cells)) (.slice A n c) fp) (hf : Lt fp w.heap.size) (hok : jobsOk l) :
    Calls Try.prog 83 #[.slice A n c] w (ToldRet l w) := by
  obtain ⟨rfl, hc, hm⟩ := h.nlen
  unfold maxLen at hm
  have HO := hide h
  have HK := hide hok
  have h60 := hok.1
  clear h hok
  obtain ⟨i1, hi1, hy0, hy1, hy2⟩ := info_parts info_int
  obtain ⟨i2, hi2, hz0, hz1, hz2⟩ := info_parts info_CrewDead'
  have HI1 := hide hi1
  have HI2 := hide hi2
  clear hi1 hi2
  go_enter Try.func83, Try.ntmps83
  go_wp2
  go_loopw [11] (fun i wr => (∃ j : Nat, j ≤ l.length ∧ i = .int .i64 j ∧ ToldAt w wr l j) ∧ Below w.heap.size w wr ∧ Row wr w.heap.size 45 [.bool false, .slice none 0 0, .slice none 0 0, .int .i64 0, .int .i64 0, .int .i64 0]) (fun i _ => l.length - (intOf i).toNat)
  case atStart =>
    refine ⟨⟨0, Nat.zero_le _, rfl, toldAt_zero _ _ _ ?_⟩, ((Below.refl _ _).alloc (Nat.le_refl _) _).alloc (by simp) _, (Row.new w _ _).alloc _⟩
    have h := Row.new (w.alloc (.cells #[.bool false, .slice none 0 0, .slice none 0 0, .int .i64 0, .int .i64 0, .int .i64 0] 45)) 45 [.bool true, .slice none 0 0, .slice none 0 0, .int .i64 (l.length : Int), .int .i64 0, .int .i64 0]
    simpa using h
  case round =>
    obtain ⟨⟨j, hj, rfl, A1, n1, c1, A2, n2, c2, us1, us2, hT⟩, hb, hrz⟩ := hrel
    have HB := hide hb
    have HRZ := hide hrz
    by_cases hlt : j < l.length
    · obtain ⟨g, off, ws, fi, rfl, hg, hfi, hwl, hcs, hov⟩ := (HO.out.below HB.out hf).elem CrewJob.cells_len hlt
      have hfine := (HK.out.2 j hlt).2
      have HS1 := hide (toldItems_snoc l j hlt)
      have HS2 := hide (toldDead_snoc l j hlt)
      have hl1 := toldItems_len HK.out j (by omega)
      have hl2 := toldDead_len l j (by omega)
      obtain ⟨B1, d1, f1, rfl, o1, w1, rfl⟩ := hov.oCrewJob
      have p0 := hcs 0 _ rfl
      have p1 := hcs 1 _ rfl
      simp only [Nat.add_zero] at p0
      have hgw : Lt f1 wr.heap.size := (hf.up HB.out).sub hfi
      clear hcs hov hb hrz
      have HDS := hide (fun w' => dead_src j l[j] (by omega) w1 w')
      generalize l[j] = x at *
      obtain ⟨W1, hW1⟩ : ∃ W1, wr.alloc (.cells #[.slice B1 x.items.length d1, .int .i64 x.bad] 100) = W1 := ⟨_, rfl⟩
      have hbA : Below wr.heap.size wr W1 := hW1 ▸ (Below.refl _ _).alloc (Nat.le_refl _) _
      have RX : Row W1 wr.heap.size 100 [.slice B1 x.items.length d1, .int .i64 x.bad] := hW1 ▸ Row.new wr _ _
      have HT1 := hide (hT.below hbA)
      have HO1 := hide (o1.below hbA hgw)
      have HBA := hide (HB.out.trans (hbA.mono HB.out.size))
      have HRA := hide (HRZ.out.below hbA HRZ.out.lt)
      have hszA : w.heap.size + 2 ≤ wr.heap.size := by have := hT.box.lt; omega
      have hszW : w.heap.size + 2 ≤ W1.heap.size := Nat.le_trans hszA hbA.size
      have x0 := RX.cell 0
      have x1 := RX.cell 1
      have lx := RX.lt
      have t1 := HT1.out.box.cell 1
      have t2 := HT1.out.box.cell 2
      have lt1 := HT1.out.box.lt
      have hwW : wr.alloc (.cells #[.slice B1 x.items.length d1, .int .i64 x.bad] 100) = W1 := hW1
      clear hT hbA o1 hgw hW1 RX
      by_cases hx : x.bad = 0
      · have bx : (x.bad != 0) = false := by simp [hx]
        obtain ⟨us, hsu, hsa⟩ := HO1.out.srcInts
        have HSU := hide hsu
        have HSA := hide hsa
        have HE1 := hide (show toldItems (l.take (j + 1)) = toldItems (l.take j) ++ x.items from by rw [HS1.out, told_zero hx])
        have HE2 := hide (show toldDead (l.take (j + 1)) = toldDead (l.take j) from by rw [HS2.out, deadP_zero hx, List.append_nil])
        clear hx hsu hsa HS1 HS2
        go_wp2_with (first | (at_builtin; refine wpl_app rfl _ _ 22 rfl i1 _ 8 Try.underlying22 HI1.out hy0 hy1 hy2 rfl (by decide) intC_len rfl HT1.out.one x.items HSU.out (by exact New.nil _ _) (fun g _ hg => by cases hg) _ _ _ rfl rfl HSA.out (by omega) (by decide) hszW ?_; intro A' n' c' w5 hn5 hown5 hgb5; have HG5 := hide hgb5; have HN5 := hide hown5; have r5 := HT1.out.row1 hgb5; have q5 : w5.cell? ⟨w.heap.size + 1, 1, none⟩ = some (.slice A1 n1 c1) := r5.cell 1; have f5 : w5.frozen? ⟨w.heap.size + 1, 1, none⟩ = false := r5.frozen 1; have HNN5 := hide hn5; clear hown5 hgb5 r5 hn5))
        go_roundw
        case rel =>
          refine ⟨⟨j + 1, by omega, by go_num, ?_⟩, ?_, ?_⟩
          · unfold ToldAt
            rw [HE1.out, HE2.out]
            exact ⟨_, _, _, _, _, _, _, _, HT1.out.put1 HG5.out HN5.out 1 rfl (fun g hg => by cases hg)⟩
          · exact HBA.out.trans (HT1.out.frame1 HG5.out hszW 1 _ (by omega))
          · exact (HG5.out.row HRA.out (HT1.out.one.low (by omega))).far (by simp) _
        case measure => simp [intOf]; omega
      · have bx : (x.bad != 0) = true := by simp [hx]
        have HE1 := hide (show toldItems (l.take (j + 1)) = toldItems (l.take j) from by rw [HS1.out, told_bad hx, List.append_nil])
        have HE2 := hide (show toldDead (l.take (j + 1)) = toldDead (l.take j) ++ [⟨(j : Int), x.bad⟩] from by rw [HS2.out, deadP_bad hx])
        clear hx HS1 HS2
        have HT2 := hide (HT1.out.alloc (.cells #[.int .i64 (j : Int), .int .i64 x.bad] 114))
        go_wp2_with (first | (at_builtin; refine wpl_app rfl _ _ 43 rfl i2 _ 16 Try.underlying43 HI2.out hz0 hz1 hz2 rfl (by decide) CrewDead.cells_len rfl HT2.out.two [⟨(j : Int), x.bad⟩] (HDS.out _) (by exact New.nil _ _) (fun g _ hg => by cases hg) _ _ _ rfl rfl (SrcAt.new W1 _ _ _ _) (by omega) (by decide) (by simp; omega) ?_; intro A' n' c' w5 hn5 hown5 hgb5; have HG5 := hide hgb5; have HN5 := hide hown5; have r5 := HT2.out.row2 hgb5; have q5 : w5.cell? ⟨w.heap.size + 1, 2, none⟩ = some (.slice A2 n2 c2) := r5.cell 2; have f5 : w5.frozen? ⟨w.heap.size + 1, 2, none⟩ = false := r5.frozen 2; have HNN5 := hide hn5; clear hown5 hgb5 r5 hn5))
        go_roundw
        case rel =>
          refine ⟨⟨j + 1, by omega, by go_num, ?_⟩, ?_, ?_⟩
          · unfold ToldAt
            rw [HE1.out, HE2.out]
            exact ⟨_, _, _, _, _, _, _, _, HT2.out.put2 HG5.out HN5.out 2 rfl (fun g hg => by cases hg)⟩
          · exact HBA.out.trans (((Below.refl _ W1).alloc (by omega) _).trans (HT2.out.frame2 HG5.out (by simp; omega) 2 _ (by omega)))
          · exact (HG5.out.row (HRA.out.alloc _) (HT2.out.two.low (by omega))).far (by simp) _
        case measure => simp [intOf]; omega
    · obtain rfl : j = l.length := by omega
      rw [List.take_length] at hT
      have hbx := hT.box
      have r1 := hbx.cell 0
      have r2 := hbx.cell 1
      have r3 := hbx.cell 2
      have r4 := hbx.cell 3
      have r5 := hbx.cell 4
      have r6 := hbx.cell 5
      have lb := hbx.lt
      have z0 := hrz.cell 0
      have z1 := hrz.cell 1
      have z2 := hrz.cell 2
      have z3 := hrz.cell 3
      have z4 := hrz.cell 4
      have z5 := hrz.cell 5
      have f0 := hrz.frozen 0
      have f1 := hrz.frozen 1
      have f2 := hrz.frozen 2
      have f3 := hrz.frozen 3
      have f4 := hrz.frozen 4
      have f5 := hrz.frozen 5
      obtain ⟨p1, p2, o1, o2, hn⟩ := hT.toOw
      have HN := hide hn
      have HX := hide (OwC.mCrewTold (x := toldOf l) o1 o2 (show (Lit.int .i64 (l.length : Int)).wf = true from WalkArith.wf_i64 (by omega)) (show (Lit.int .i64 0).wf = true by decide) (show (Lit.int .i64 0).wf = true by decide))
      clear hT hbx o1 o2 hn hb hrz
      go_wp2
      refine bodyPost_ret (ret_row rfl _ _ w.heap.size 45 [.bool true, .slice A1 n1 c1, .slice A2 n2 c2, .int .i64 (l.length : Int), .int .i64 0, .int .i64 0] (by exact (((((HRZ.out.set 0 _).set 1 _).set 2 _).set 3 _).set 4 _).set 5 _) _ rfl Try.underlying45 rfl (by kernel_rfl)) rfl ?_
      have HFIN := hide (fun W (hgr : wr.grownBy W (some w.heap.size)) => show OwC W (toldOf l).cells [.bool true, .slice A1 n1 c1, .slice A2 n2 c2, .int .i64 (l.length : Int), .int .i64 0, .int .i64 0] (p1 ++ p2) ∧ New W (p1 ++ p2) w.heap.size ∧ Below w.heap.size w W from
        ⟨HX.out.grown hgr HN.out.lt (HN.out.out (by omega)), (HN.out.grown hgr (fun g e => by injection e with e; subst e; exact HN.out.out (by omega))).mono (by omega), HB.out.trans (below_of_grown hgr (Nat.le_refl _) HB.out.size)⟩)
      exact ⟨_, _, rfl, HFIN.out _ (by (iterate 6 refine only_setCell ?_ (.inl rfl) _); exact grown_refl wr _)⟩

set_option maxRecDepth 100000 in
set_option maxHeartbeats 1000000 in
theorem l53Told_any (l : List CrewJob) (A : Option Addr) (n c : Nat) (fp : List Nat) (w : World) (h : Ow w (.s 2 l.length (l.flatMap CrewJob.cells)) (.slice A n c) fp) (hf : Lt fp w.heap.size) (hok : jobsOk l) :
    Calls Try.prog 76 #[.slice A n c, .int .i64 (l.length : Int)] w (ToldRet l w) := by
  obtain ⟨rfl, hc, hm⟩ := h.nlen
  unfold maxLen at hm
  have HO := hide h
  have HK := hide hok
  have h60 := hok.1
  clear h hok
  obtain ⟨i1, hi1, hy0, hy1, hy2⟩ := info_parts info_int
  obtain ⟨i2, hi2, hz0, hz1, hz2⟩ := info_parts info_CrewDead'
  have HI1 := hide hi1
  have HI2 := hide hi2
  clear hi1 hi2
  go_enter Try.func76, Try.ntmps76
  go_wp2
  go_loopw [6] (fun i wr => (∃ j : Nat, j ≤ l.length ∧ i = .int .i64 j ∧ ToldAt w wr l j) ∧ Below w.heap.size w wr ∧ Row wr w.heap.size 45 [.bool false, .slice none 0 0, .slice none 0 0, .int .i64 0, .int .i64 0, .int .i64 0]) (fun i _ => l.length - (intOf i).toNat)
  case atStart =>
    refine ⟨⟨0, Nat.zero_le _, rfl, toldAt_zero _ _ _ ?_⟩, ((Below.refl _ _).alloc (Nat.le_refl _) _).alloc (by simp) _, (Row.new w _ _).alloc _⟩
    have h := Row.new (w.alloc (.cells #[.bool false, .slice none 0 0, .slice none 0 0, .int .i64 0, .int .i64 0, .int .i64 0] 45)) 45 [.bool true, .slice none 0 0, .slice none 0 0, .int .i64 (l.length : Int), .int .i64 0, .int .i64 0]
    simpa using h
  case round =>
    obtain ⟨⟨j, hj, rfl, A1, n1, c1, A2, n2, c2, us1, us2, hT⟩, hb, hrz⟩ := hrel
    have HB := hide hb
    have HRZ := hide hrz
    by_cases hlt : j < l.length
    · obtain ⟨g, off, ws, fi, rfl, hg, hfi, hwl, hcs, hov⟩ := (HO.out.below HB.out hf).elem CrewJob.cells_len hlt
      have hfine := (HK.out.2 j hlt).2
      have HS1 := hide (toldItems_snoc l j hlt)
      have HS2 := hide (toldDead_snoc l j hlt)
      have hl1 := toldItems_len HK.out j (by omega)
      have hl2 := toldDead_len l j (by omega)
      obtain ⟨B1, d1, f1, rfl, o1, w1, rfl⟩ := hov.oCrewJob
      have p0 := hcs 0 _ rfl
      have p1 := hcs 1 _ rfl
      simp only [Nat.add_zero] at p0
      have hgw : Lt f1 wr.heap.size := (hf.up HB.out).sub hfi
      clear hcs hov hb hrz
      have HDS := hide (fun w' => dead_src j l[j] (by omega) w1 w')
      have hbad0 := (HK.out.2 j hlt).1
      generalize l[j] = x at *
      have hszA : w.heap.size + 2 ≤ wr.heap.size := by have := hT.box.lt; omega
      have hgl : g < w.heap.size := hf _ hg
      have hgw2 : g < wr.heap.size := by omega
      have hgl2 : g < w.heap.size + 2 := by omega
      have hgl3 : g < w.heap.size + 1 := by omega
      have HT1 := hide (hT.drewN 1)
      have HO1 := hide (o1.drewN 1)
      have t1 : wr.cell? ⟨w.heap.size + 1, 1, none⟩ = some (.slice A1 n1 c1) := hT.box.cell 1
      have t2 : wr.cell? ⟨w.heap.size + 1, 2, none⟩ = some (.slice A2 n2 c2) := hT.box.cell 2
      have lt1 := hT.box.lt
      clear hT o1 hgw
      by_cases hx : x.bad = 0
      · have bx : ¬ (0 < x.bad) := by omega
        obtain ⟨us, hsu, hsa⟩ := HO1.out.srcInts
        have HSU := hide hsu
        have HSA := hide hsa
        have HE1 := hide (show toldItems (l.take (j + 1)) = toldItems (l.take j) ++ x.items from by rw [HS1.out, told_zero hx])
        have HE2 := hide (show toldDead (l.take (j + 1)) = toldDead (l.take j) from by rw [HS2.out, deadP_zero hx, List.append_nil])
        clear hx hsu hsa HS1 HS2
        go_wp2
        go_still_tail 7, (by kernel_rfl)
        change wpList _ _ _ _ _ wr.drew
        go_wp2_with (first | (at_builtin; refine wpl_app rfl _ _ 22 rfl i1 _ 8 Try.underlying22 HI1.out hy0 hy1 hy2 rfl (by decide) intC_len rfl HT1.out.one x.items HSU.out (by exact New.nil _ _) (fun g _ hg => by cases hg) _ _ _ rfl rfl HSA.out (by omega) (by decide) (by exact hszA) ?_; intro A' n' c' w5 hn5 hown5 hgb5; have HG5 := hide hgb5; have HN5 := hide hown5; have r5 := HT1.out.row1 hgb5; have q5 : w5.cell? ⟨w.heap.size + 1, 1, none⟩ = some (.slice A1 n1 c1) := r5.cell 1; have f5 : w5.frozen? ⟨w.heap.size + 1, 1, none⟩ = false := r5.frozen 1; have hk5 : Below (w.heap.size + 2) wr w5 := (below_drewN (Below.refl _ wr) 1).trans (hgb5.toBelow (by exact hszA) (fun g e => HT1.out.one.from e)); have HNN5 := hide hn5; clear hown5 hgb5 r5 hn5))
        go_roundw
        case rel =>
          refine ⟨⟨j + 1, by omega, by go_num, ?_⟩, ?_, ?_⟩
          · unfold ToldAt
            rw [HE1.out, HE2.out]
            exact ⟨_, _, _, _, _, _, _, _, HT1.out.put1 HG5.out HN5.out 1 rfl (fun g hg => by cases hg)⟩
          · exact HB.out.trans ((below_drewN (Below.refl _ wr) 1).trans (HT1.out.frame1 HG5.out (by exact hszA) 1 _ (by omega)))
          · exact (HG5.out.row (HRZ.out.drewN 1) (HT1.out.one.low (by omega))).far (by simp) _
        case measure => simp [intOf]; omega
      · have bx : 0 < x.bad := by omega
        have HE1 := hide (show toldItems (l.take (j + 1)) = toldItems (l.take j) from by rw [HS1.out, told_bad hx, List.append_nil])
        have HE2 := hide (show toldDead (l.take (j + 1)) = toldDead (l.take j) ++ [⟨(j : Int), x.bad⟩] from by rw [HS2.out, deadP_bad hx])
        clear hx HS1 HS2
        have HT2 := hide (HT1.out.alloc (.cells #[.int .i64 (j : Int), .int .i64 x.bad] 114))
        have HSZ := hide (show w.heap.size + 2 ≤ ((wr.drewN 1).alloc (.cells #[.int .i64 (j : Int), .int .i64 x.bad] 114)).heap.size by rw [World.size_alloc]; exact Nat.le_succ_of_le hszA)
        go_wp2
        go_wp2
        go_region_law (first | (refine step_app (by rfl) _ _ 43 (by rfl) i2 _ 16 Try.underlying43 HI2.out hz0 hz1 hz2 rfl (by decide) CrewDead.cells_len (by rfl) HT2.out.two [⟨(j : Int), x.bad⟩] (HDS.out _) (by exact New.nil _ _) (fun g _ hg => by cases hg) _ 1 1 (by rfl) rfl (SrcAt.new (wr.drewN 1) _ _ _ _) (by omega) (by decide) HSZ.out ?_; intro A' n' c' w5 hn5 hown5 hgb5; have HG5 := hide hgb5; have HN5 := hide hown5; have r5 := HT2.out.row2 hgb5; have q5 : w5.cell? ⟨w.heap.size + 1, 2, none⟩ = some (.slice A2 n2 c2) := r5.cell 2; have f5 : w5.frozen? ⟨w.heap.size + 1, 2, none⟩ = false := r5.frozen 2; have hk5 : Below (w.heap.size + 2) wr w5 := ((below_drewN (Below.refl _ wr) 1).alloc hszA _).trans (hgb5.toBelow HSZ.out (fun g e => HT2.out.two.from e)); have HNN5 := hide hn5; clear hown5 hgb5 r5 hn5))
        all_goals
          go_wp2
          go_roundw
          case rel =>
            refine ⟨⟨j + 1, by omega, by go_num, ?_⟩, ?_, ?_⟩
            · unfold ToldAt
              rw [HE1.out, HE2.out]
              exact ⟨_, _, _, _, _, _, _, _, HT2.out.put2 HG5.out HN5.out 2 rfl (fun g hg => by cases hg)⟩
            · exact HB.out.trans (((below_drewN (Below.refl _ wr) 1).alloc (show w.heap.size ≤ wr.heap.size by omega) _).trans (HT2.out.frame2 HG5.out HSZ.out 2 _ (by omega)))
            · exact (HG5.out.row ((HRZ.out.drewN 1).alloc _) (HT2.out.two.low (by omega))).far (by simp) _
          case measure => simp [intOf]; omega
    · obtain rfl : j = l.length := by omega
      rw [List.take_length] at hT
      have hbx := hT.box
      have r1 := hbx.cell 0
      have r2 := hbx.cell 1
      have r3 := hbx.cell 2
      have r4 := hbx.cell 3
      have r5 := hbx.cell 4
      have r6 := hbx.cell 5
      have lb := hbx.lt
      have z0 := hrz.cell 0
      have z1 := hrz.cell 1
      have z2 := hrz.cell 2
      have z3 := hrz.cell 3
      have z4 := hrz.cell 4
      have z5 := hrz.cell 5
      have f0 := hrz.frozen 0
      have f1 := hrz.frozen 1
      have f2 := hrz.frozen 2
      have f3 := hrz.frozen 3
      have f4 := hrz.frozen 4
      have f5 := hrz.frozen 5
      obtain ⟨p1, p2, o1, o2, hn⟩ := hT.toOw
      have HN := hide hn
      have HX := hide (OwC.mCrewTold (x := toldOf l) o1 o2 (show (Lit.int .i64 (l.length : Int)).wf = true from WalkArith.wf_i64 (by omega)) (show (Lit.int .i64 0).wf = true by decide) (show (Lit.int .i64 0).wf = true by decide))
      clear hT hbx o1 o2 hn hb hrz
      go_wp2
      refine bodyPost_ret (ret_row rfl _ _ w.heap.size 45 [.bool true, .slice A1 n1 c1, .slice A2 n2 c2, .int .i64 (l.length : Int), .int .i64 0, .int .i64 0] (by exact (((((HRZ.out.set 0 _).set 1 _).set 2 _).set 3 _).set 4 _).set 5 _) _ rfl Try.underlying45 rfl (by kernel_rfl)) rfl ?_
      have HFIN := hide (fun W (hgr : wr.grownBy W (some w.heap.size)) => show OwC W (toldOf l).cells [.bool true, .slice A1 n1 c1, .slice A2 n2 c2, .int .i64 (l.length : Int), .int .i64 0, .int .i64 0] (p1 ++ p2) ∧ New W (p1 ++ p2) w.heap.size ∧ Below w.heap.size w W from
        ⟨HX.out.grown hgr HN.out.lt (HN.out.out (by omega)), (HN.out.grown hgr (fun g e => by injection e with e; subst e; exact HN.out.out (by omega))).mono (by omega), HB.out.trans (below_of_grown hgr (Nat.le_refl _) HB.out.size)⟩)
      exact ⟨_, _, rfl, HFIN.out _ (by (iterate 6 refine only_setCell ?_ (.inl rfl) _); exact grown_refl wr _)⟩
end Go.Proofs.Ytpkjjfnfolbcoaa
