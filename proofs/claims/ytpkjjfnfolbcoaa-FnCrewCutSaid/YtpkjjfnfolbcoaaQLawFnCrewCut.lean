/-
  FnCrewCut returns true for every input: wherever the user stops, what came is what the first jobs give. No condition.
-/
import Derived.Deep.RegionHeld3
import Derived.Laws.CopyOwn
import Derived.Test.YtpkjjfnfolbcoaaQCrewSerial
import Derived.Test.YtpkjjfnfolbcoaaQPlayS8
import Derived.Test.YtpkjjfnfolbcoaaQPlayI5
import Derived.Test.YtpkjjfnfolbcoaaQLwTold
import Derived.Test.YtpkjjfnfolbcoaaQDrawP
import Derived.Test.YtpkjjfnfolbcoaaQPlayE
set_option linter.unusedVariables false
set_option linter.unusedSimpArgs false
namespace Go.Proofs.Ytpkjjfnfolbcoaa
open Go.ChangeShapes Go.WideShapes Go.ChangeAt Go.RowKit

theorem CrewJob.bulkL_take (l : List CrewJob) (m : Nat) : CrewJob.bulkL (l.take m) ≤ CrewJob.bulkL l := by
  have h := CrewJob.bulkS_append (l.take m) (l.drop m)
  rw [List.take_append_drop] at h
  unfold CrewJob.bulkL
  rw [List.length_take]
  omega
theorem cut_parts {l : List CrewJob} {b c : Int} {ps : List Int} {cn : Int} {its : List Int} {ds : List CrewDead} {j n o : Int} (h : playOf l b c ps cn = CrewTold.mk true its ds j n o) :
    ∃ m : Nat, m ≤ l.length ∧ j = (m : Int) ∧ serialOf (l.take m) = CrewTold.mk true its ds (m : Int) 0 0 ∧ 0 ≤ o ∧ o ≤ 11 * (l.length : Int) + b + 7 ∧ (cn < 0 → m = l.length) ∧ l.length ≤ 60 ∧ (1 ≤ b ∧ b ≤ 8) := by
  by_cases hp : playFits l b c ps
  · obtain ⟨m, k, q, he, hm, hk, hq0, hq1, hcx⟩ := playOf_cut l b c ps cn hp
    rw [he] at h
    injection h with e1 e2 e3 e4 e5 e6
    have hlt : (l.take m).length = m := by rw [List.length_take]; omega
    have hc := hp.1
    unfold crewOk at hc
    refine ⟨m, hm, ?_, ?_, by omega, by omega, fun hc => (hcx hc).1, hp.2.1.1, hc.2.1⟩
    · rw [← e4]
      show (((l.take m).length : Nat) : Int) = (m : Int)
      rw [hlt]
    · unfold serialOf
      rw [if_pos (tb_true (jobsOk_take hp.2.1 m)), ← e2, ← e3]
      show CrewTold.mk true (toldItems (l.take m)) (toldDead (l.take m)) (((l.take m).length : Nat) : Int) 0 0 = _
      rw [hlt]
      rfl
  · rw [playOf_no l b c ps cn hp] at h
    injection h with e1
    cases e1
set_option maxRecDepth 100000 in
set_option maxHeartbeats 8000000 in
theorem lawFnCrewCut_any (w : World) (x0 : List UInt8) (A0 : Option Addr) (m0 c0 : Nat) (fp0 : List Nat) (ho0 : Ow w (.s 1 (x0).length ((x0).flatMap byteC)) (.slice A0 m0 c0) fp0) (hl0 : Lt fp0 w.heap.size) :
    Calls Try.prog 9 #[.slice A0 m0 c0] w fun e w' => e = .returned (.bool true) ∧ Below w.heap.size w w' := by
  obtain ⟨rfl, hc0, hm0⟩ := ho0.nlen
  by_cases hz0 : (x0.length : Int) ≤ 1048576
  rotate_left
  · have hz' : (1048576 : Int) < x0.length := by omega
    go_enter Try.func9, Try.ntmps9
    go_wp2
    go_ret
    exact ⟨rfl, Below.refl _ _⟩
  have HD := hide (drawCrewPlay_any x0 A0 _ c0 fp0 w ho0 hl0 (by omega))
  clear ho0
  go_enter Try.func9, Try.ntmps9
  go_wp2_with fail
  refine HD.out.mono ?_
  rintro e w3 ⟨v, v3, l, ps, fq, fp, b, c, cn, rfl, oj, nj, hbk, op, np, hpl, hb, hc, hcn, hb3⟩
  obtain ⟨A3, c3, rfl, hlc, hcm⟩ := oj.slice
  obtain ⟨A4, c4, rfl, hlp, hpm⟩ := op.slice
  have HO3 := hide oj
  have HN3 := hide nj
  have HP3 := hide op
  have HQ3 := hide np
  have HB3 := hide hb3
  have HBK := hide hbk
  clear oj nj op np hb3 hbk HD
  have hwb : (Lit.int .i64 b).wf = true := WalkArith.wf_i64 ⟨by omega, by omega⟩
  have hwc : (Lit.int .i64 c).wf = true := WalkArith.wf_i64 ⟨by omega, by omega⟩
  have hwn : (Lit.int .i64 cn).wf = true := WalkArith.wf_i64 ⟨by omega, by omega⟩
  have hps : ps.length ≤ 1048576 := by omega
  obtain ⟨r0, hr0⟩ : ∃ r, r = playOf l b c ps cn := ⟨_, rfl⟩
  obtain ⟨ok, its, ds, j, n, o⟩ := r0
  have HE := hide hr0.symm
  clear hr0
  have HC := hide (specCrewPlay_k l A3 _ c3 fq b c ps A4 _ c4 fp cn w3 HO3.out HN3.out.lt HP3.out HQ3.out.lt hps hwb hwc hwn)
  go_wp2_with fail
  refine HC.out.mono ?_
  rintro e w3r ⟨us3r, fq3r, rfl, ho3r, hn3r, hb3r⟩
  rw [HE.out] at ho3r
  have T5 := ho3r.oCrewTold
  dsimp only at T5
  obtain ⟨pA1, pc1, pA2, pc2, pf1, pf2, rfl, to1, to2, tw3, tw4, tw5, tef⟩ := T5
  clear to1 to2 tw3 tw4 tw5 tef HC
  obtain ⟨w3b, hw3b⟩ : ∃ u, u = w3r.alloc (.cells #[.bool ok, .slice pA1 its.length pc1, .slice pA2 ds.length pc2, .int .i64 j, .int .i64 n, .int .i64 o] 45) := ⟨_, rfl⟩
  have hA : Below w3r.heap.size w3r w3b := by rw [hw3b]; exact (Below.refl _ _).alloc (Nat.le_refl _) _
  have hS := hb3r.trans (hA.mono hb3r.size)
  have HO3b := hide (HO3.out.below hS HN3.out.lt)
  have HN3b := hide (HN3.out.below hS HN3.out.lt)
  have HP3b := hide (HP3.out.below hS HQ3.out.lt)
  have HQ3b := hide (HQ3.out.below hS HQ3.out.lt)
  have HB3b := hide (HB3.out.trans (hS.mono HB3.out.size))
  clear HO3 HN3 HP3 HQ3 HB3
  have HWp3b := hide (ho3r.below hA hn3r.lt)
  have HMp3b := hide (hn3r.below hA hn3r.lt)
  have HXp3b := hide (show Row w3b w3r.heap.size 45 [.bool ok, .slice pA1 its.length pc1, .slice pA2 ds.length pc2, .int .i64 j, .int .i64 n, .int .i64 o] from by rw [hw3b]; exact Row.new w3r _ _)
  clear ho3r hn3r hb3r hA hS
  have HC := hide (show Calls Try.prog 29 _ (w3r.alloc (.cells #[.bool ok, .slice pA1 its.length pc1, .slice pA2 ds.length pc2, .int .i64 j, .int .i64 n, .int .i64 o] 45)) (PlayRet l b c ps cn w3b) from by rw [← hw3b]; exact implCrewPlay_k l A3 _ c3 fq b c ps A4 _ c4 fp cn w3b HO3b.out HN3b.out.lt HP3b.out HQ3b.out.lt hps hwb hwc hwn)
  go_wp2_with fail
  refine HC.out.mono ?_
  rintro e w3br ⟨us3br, fq3br, rfl, ho3br, hn3br, hb3br⟩
  rw [HE.out] at ho3br
  have T5 := ho3br.oCrewTold
  dsimp only at T5
  obtain ⟨tA1, tc1, tA2, tc2, tf1, tf2, rfl, to1, to2, tw3, tw4, tw5, tef⟩ := T5
  clear to1 to2 tw3 tw4 tw5 tef HC
  obtain ⟨w3bb, hw3bb⟩ : ∃ u, u = w3br.alloc (.cells #[.bool ok, .slice tA1 its.length tc1, .slice tA2 ds.length tc2, .int .i64 j, .int .i64 n, .int .i64 o] 45) := ⟨_, rfl⟩
  have hA : Below w3br.heap.size w3br w3bb := by rw [hw3bb]; exact (Below.refl _ _).alloc (Nat.le_refl _) _
  have hS := hb3br.trans (hA.mono hb3br.size)
  have HO3bb := hide (HO3b.out.below hS HN3b.out.lt)
  have HN3bb := hide (HN3b.out.below hS HN3b.out.lt)
  have HP3bb := hide (HP3b.out.below hS HQ3b.out.lt)
  have HQ3bb := hide (HQ3b.out.below hS HQ3b.out.lt)
  have HWp3bb := hide (HWp3b.out.below hS HMp3b.out.lt)
  have HMp3bb := hide (HMp3b.out.below hS HMp3b.out.lt)
  have HXp3bb := hide (HXp3b.out.below hS HXp3b.out.lt)
  have HB3bb := hide (HB3b.out.trans (hS.mono HB3b.out.size))
  clear HO3b HN3b HP3b HQ3b HWp3b HMp3b HXp3b HB3b
  have HWt3bb := hide (ho3br.below hA hn3br.lt)
  have HMt3bb := hide (hn3br.below hA hn3br.lt)
  have HXt3bb := hide (show Row w3bb w3br.heap.size 45 [.bool ok, .slice tA1 its.length tc1, .slice tA2 ds.length tc2, .int .i64 j, .int .i64 n, .int .i64 o] from by rw [hw3bb]; exact Row.new w3br _ _)
  clear ho3br hn3br hb3br hA hS
  have HC := hide (lwTold_same (CrewTold.mk ok its ds j n o) _ _ _ _ w3bb HWt3bb.out HWp3bb.out HMt3bb.out.lt HMp3bb.out.lt)
  have p0 := HXp3bb.out.cell 0
  have p1 := HXp3bb.out.cell 1
  have p2 := HXp3bb.out.cell 2
  have p3 := HXp3bb.out.cell 3
  have p4 := HXp3bb.out.cell 4
  have p5 := HXp3bb.out.cell 5
  have pl := HXp3bb.out.lt
  have t0 := HXt3bb.out.cell 0
  have t1 := HXt3bb.out.cell 1
  have t2 := HXt3bb.out.cell 2
  have t3 := HXt3bb.out.cell 3
  have t4 := HXt3bb.out.cell 4
  have t5 := HXt3bb.out.cell 5
  have tl := HXt3bb.out.lt
  go_upto_region 6 with fail
  rw [← hw3bb]
  clear hw3bb hw3b
  go_wp2_with fail
  refine HC.out.mono ?_
  rintro e wa ⟨rfl, hba⟩
  clear p0 p1 p2 p3 p4 p5 pl t0 t1 t2 t3 t4 t5 tl HC
  have HOa := hide (HO3bb.out.below hba HN3bb.out.lt)
  have HNa := hide (HN3bb.out.below hba HN3bb.out.lt)
  have HPa := hide (HP3bb.out.below hba HQ3bb.out.lt)
  have HQa := hide (HQ3bb.out.below hba HQ3bb.out.lt)
  have HWpa := hide (HWp3bb.out.below hba HMp3bb.out.lt)
  have HMpa := hide (HMp3bb.out.below hba HMp3bb.out.lt)
  have HWta := hide (HWt3bb.out.below hba HMt3bb.out.lt)
  have HMta := hide (HMt3bb.out.below hba HMt3bb.out.lt)
  have HXpa := hide (HXp3bb.out.below hba HXp3bb.out.lt)
  have HXta := hide (HXt3bb.out.below hba HXt3bb.out.lt)
  have HBa := hide (HB3bb.out.trans (hba.mono HB3bb.out.size))
  clear HO3bb HN3bb HP3bb HQ3bb HWp3bb HMp3bb HWt3bb HMt3bb HXp3bb HXt3bb HB3bb
  clear hba
  have p0 := HXpa.out.cell 0
  have p3 := HXpa.out.cell 3
  have p4 := HXpa.out.cell 4
  have p5 := HXpa.out.cell 5
  have pl := HXpa.out.lt
  have t0 := HXta.out.cell 0
  have t1 := HXta.out.cell 1
  have t2 := HXta.out.cell 2
  have t3 := HXta.out.cell 3
  have t4 := HXta.out.cell 4
  have t5 := HXta.out.cell 5
  have tl := HXta.out.lt
  by_cases hok : ok = true
  rotate_left
  · have hokf : ok = false := by simpa using hok
    rw [hokf] at p0 t0
    clear hok
    go_wp2
    go_ret
    exact ⟨rfl, HBa.out⟩
  subst hok
  obtain ⟨m, hm, rfl, hser, ho0, ho1, hcx, hl60, hbb⟩ := cut_parts HE.out
  have HSE := hide hser
  have HCX := hide hcx
  have ho10 := ho1
  clear hser hcx HE
  have q1 : decide ((m : Int) < 0) = false := decide_eq_false (by omega)
  have q2 : decide ((l.length : Int) < (m : Int)) = false := decide_eq_false (by omega)
  have q3 : decide (l.length < m) = false := decide_eq_false (by omega)
  have i1 : (0 : Int) ≤ (m : Int) := by omega
  have i2 : (m : Int) ≤ (c3 : Int) := by omega
  have k1 : IntKind.i64.wrap (11 * (l.length : Int)) = 11 * (l.length : Int) := wrapI _ (by omega) (by omega)
  have k2 : IntKind.i64.wrap (11 * (l.length : Int) + b) = 11 * (l.length : Int) + b := wrapI _ (by omega) (by omega)
  have k3 : IntKind.i64.wrap (11 * (l.length : Int) + b + 7) = 11 * (l.length : Int) + b + 7 := wrapI _ (by omega) (by omega)
  have k4 : wrap64 (11 * (l.length : Int)) = 11 * (l.length : Int) := by unfold wrap64; omega
  have k5 : wrap64 (11 * (l.length : Int) + b) = 11 * (l.length : Int) + b := by unfold wrap64; omega
  have k6 : wrap64 (11 * (l.length : Int) + b + 7) = 11 * (l.length : Int) + b + 7 := by unfold wrap64; omega
  have q4 : decide (o ≤ 11 * (l.length : Int) + b + 7) = true := decide_eq_true ho1
  have hSER : ∀ W, Below wa.heap.size wa W → Calls Try.prog 45 #[.slice A3 m c3] W (SerialRet (l.take m) W) := fun W hb => by
    obtain ⟨fqt, hot, hsub⟩ := Ow.takeN CrewJob.cells_len (HOa.out.below hb HNa.out.lt) m hm
    have hlt : (l.take m).length = m := by rw [List.length_take]; omega
    have hbk2 : CrewJob.bulkL (l.take m) ≤ 1048576 := by
      have := HBK.out
      have := CrewJob.bulkL_take l m
      omega
    exact implCrewSerial_any (l.take m) A3 m c3 fqt W (by have h := hot; rw [hlt] at h; rw [hlt]; exact h) ((HNa.out.lt.up hb).sub hsub) hbk2
  have HSER := hide hSER
  have HLW := hide (fun (W : World) (us : List Value) (fp : List Nat) (hb : Below wa.heap.size wa W) (ho : OwC W (CrewTold.mk true its ds (m : Int) 0 0).cells us fp) (hf : Lt fp W.heap.size) => lwTold_like (CrewTold.mk true its ds (m : Int) n o) 0 0 _ us _ _ W (HWta.out.below hb HMta.out.lt) ho (HMta.out.lt.up hb) hf)
  have hbr : Below wa.heap.size wa wa.drew := below_drewN (Below.refl _ _) 1
  have HSS := hide (fun (W : World) (hb : Below wa.heap.size wa W) => show W.cell? ⟨w3br.heap.size, 0, none⟩ = some (.bool true) ∧ W.cell? ⟨w3br.heap.size, 1, none⟩ = some (.slice tA1 its.length tc1) ∧ W.cell? ⟨w3br.heap.size, 2, none⟩ = some (.slice tA2 ds.length tc2) ∧ W.cell? ⟨w3br.heap.size, 3, none⟩ = some (.int .i64 (m : Int)) ∧ W.cell? ⟨w3br.heap.size, 4, none⟩ = some (.int .i64 n) ∧ W.cell? ⟨w3br.heap.size, 5, none⟩ = some (.int .i64 o) from ⟨(HXta.out.below hb HXta.out.lt).cell 0, (HXta.out.below hb HXta.out.lt).cell 1, (HXta.out.below hb HXta.out.lt).cell 2, (HXta.out.below hb HXta.out.lt).cell 3, (HXta.out.below hb HXta.out.lt).cell 4, (HXta.out.below hb HXta.out.lt).cell 5⟩)
  clear hSER ho1 ho0
  by_cases hneg : 0 ≤ cn
  · have g1 : decide (0 ≤ cn) = true := decide_eq_true hneg
    go_wp2_with fail
    refine wp_region_held_drew (S := fun W => Below wa.heap.size wa W) (by kernel_rfl) (below_drewN (Below.refl _ _) 1) (fun hS0 => ?_)
    refine wpAnyH_take (i := 0) (v := .agg #[.bool true, .slice tA1 its.length tc1, .slice tA2 ds.length tc2, .int .i64 (m : Int), .int .i64 n, .int .i64 o]) rfl (by kernel_rfl) (by kernel_rfl) (by kernel_rfl) (fun _ _ _ h => h) (Or.inl ⟨by kernel_rfl, fun W hS => run_loadOp_row (HXta.out.below hS HXta.out.lt) 45 rfl rfl Try.underlying45 rfl (by kernel_rfl)⟩) hS0 ?_
    refine wpAnyH_take (i := 1) (v := .slice A3 l.length c3) rfl (by kernel_rfl) (by kernel_rfl) (by kernel_rfl) (fun _ _ _ h => h) (Or.inl ⟨by kernel_rfl, by (intro W hS; go_simp; first | done | with_reducible rfl | rfl)⟩) hS0 ?_
    refine wpAnyH_take (i := 2) (v := .pointer (some ⟨w3br.heap.size, 3, none⟩)) rfl (by kernel_rfl) (by kernel_rfl) (by kernel_rfl) (fun _ _ _ h => h) (Or.inl ⟨by kernel_rfl, by (intro W hS; go_simp; first | done | with_reducible rfl | rfl)⟩) hS0 ?_
    refine wpAnyH_take (i := 3) (v := .int .i64 (m : Int)) rfl (by kernel_rfl) (by kernel_rfl) (by kernel_rfl) (fun _ _ _ h => h) (Or.inl ⟨by kernel_rfl, by (intro W hS; have y := (HXta.out.below hS HXta.out.lt).cell 3; have yl := (HXta.out.below hS HXta.out.lt).lt; go_simp; first | done | with_reducible rfl | rfl)⟩) hS0 ?_
    (try simp only [Act.put, List.getElem_toArray, List.getElem_cons_zero, List.getElem_cons_succ, List.setIfInBounds_toArray, List.set_cons_zero, List.set_cons_succ])
    refine wpAnyH_take (i := 4) (v := .slice A3 m c3) rfl (by kernel_rfl) (by kernel_rfl) (by kernel_rfl) (fun _ _ _ h => h) (Or.inl ⟨by kernel_rfl, by (intro W hS; go_simp; first | done | with_reducible rfl | rfl)⟩) hS0 ?_
    refine wpAnyH_ready (rs := [5]) (by kernel_rfl) (by simp) ?_
    refine AllReadyH.cons rfl (fun K hK => ?_) AllReadyH.nil
    go_simp
    go_at_call 45
    refine (HSER.out _ hS0).mono ?_
    rintro e wb ⟨usb, fqb, rfl, hob, hnb, hbb⟩; rw [HSE.out] at hob
    have hS1 := hS0.trans (hbb.mono hS0.size)
    try go_simp
    refine hK.out _ _ hS1 (fun hHeld => ?_)
    clear hK K
    refine wpAnyH_ready (rs := [6]) (by kernel_rfl) (by simp) ?_
    refine AllReadyH.cons rfl (fun K hK => ?_) AllReadyH.nil
    go_simp
    go_at_call 44
    refine (HLW.out wb usb fqb hS1 hob hnb.lt).mono ?_
    rintro e wc ⟨rfl, hbc⟩
    have hS2 := hS1.trans (hbc.mono hS1.size)
    try go_simp
    refine hK.out _ _ hS2 (fun hHeld => ?_)
    clear hK K
    refine wpAnyH_take (i := 7) (v := .bool true) rfl (by kernel_rfl) (by kernel_rfl) (by kernel_rfl) (fun _ _ _ h => h) (Or.inl ⟨by kernel_rfl, by (intro W hS; go_simp; first | done | with_reducible rfl | rfl)⟩) hS2 ?_
    refine wpAnyH_take (i := 8) (v := .pointer (some ⟨w3br.heap.size, 5, none⟩)) rfl (by kernel_rfl) (by kernel_rfl) (by kernel_rfl) (fun _ _ _ h => h) (Or.inl ⟨by kernel_rfl, by (intro W hS; go_simp; first | done | with_reducible rfl | rfl)⟩) hS2 ?_
    refine wpAnyH_take (i := 9) (v := .int .i64 o) rfl (by kernel_rfl) (by kernel_rfl) (by kernel_rfl) (fun _ _ _ h => h) (Or.inl ⟨by kernel_rfl, by (intro W hS; have y := (HXta.out.below hS HXta.out.lt).cell 5; have yl := (HXta.out.below hS HXta.out.lt).lt; go_simp; first | done | with_reducible rfl | rfl)⟩) hS2 ?_
    (try simp only [Act.put, List.getElem_toArray, List.getElem_cons_zero, List.getElem_cons_succ, List.setIfInBounds_toArray, List.set_cons_zero, List.set_cons_succ])
    refine wpAnyH_take (i := 10) (v := .slice A3 l.length c3) rfl (by kernel_rfl) (by kernel_rfl) (by kernel_rfl) (fun _ _ _ h => h) (Or.inl ⟨by kernel_rfl, by (intro W hS; go_simp; first | done | with_reducible rfl | rfl)⟩) hS2 ?_
    refine wpAnyH_take (i := 11) (v := .int .i64 (l.length : Int)) rfl (by kernel_rfl) (by kernel_rfl) (by kernel_rfl) (fun _ _ _ h => h) (Or.inl ⟨by kernel_rfl, by (intro W hS; go_simp; first | done | with_reducible rfl | rfl)⟩) hS2 ?_
    refine wpAnyH_take (i := 12) (v := .int .i64 (11 * (l.length : Int))) rfl (by kernel_rfl) (by kernel_rfl) (by kernel_rfl) (fun _ _ _ h => h) (Or.inl ⟨by kernel_rfl, by (intro W hS; go_simp; first | done | with_reducible rfl | rfl)⟩) hS2 ?_
    refine wpAnyH_take (i := 13) (v := .int .i64 b) rfl (by kernel_rfl) (by kernel_rfl) (by kernel_rfl) (fun _ _ _ h => h) (Or.inl ⟨by kernel_rfl, by (intro W hS; go_simp; first | done | with_reducible rfl | rfl)⟩) hS2 ?_
    (try simp only [Act.put, List.getElem_toArray, List.getElem_cons_zero, List.getElem_cons_succ, List.setIfInBounds_toArray, List.set_cons_zero, List.set_cons_succ])
    refine wpAnyH_take (i := 14) (v := .int .i64 (11 * (l.length : Int) + b)) rfl (by kernel_rfl) (by kernel_rfl) (by kernel_rfl) (fun _ _ _ h => h) (Or.inl ⟨by kernel_rfl, by (intro W hS; go_simp; first | done | with_reducible rfl | rfl)⟩) hS2 ?_
    refine wpAnyH_take (i := 15) (v := .int .i64 (11 * (l.length : Int) + b + 7)) rfl (by kernel_rfl) (by kernel_rfl) (by kernel_rfl) (fun _ _ _ h => h) (Or.inl ⟨by kernel_rfl, by (intro W hS; go_simp; first | done | with_reducible rfl | rfl)⟩) hS2 ?_
    refine wpAnyH_take (i := 16) (v := .bool true) rfl (by kernel_rfl) (by kernel_rfl) (by kernel_rfl) (fun _ _ _ h => h) (Or.inl ⟨by kernel_rfl, by (intro W hS; go_simp; first | done | with_reducible rfl | rfl)⟩) hS2 ?_
    refine wpAnyH_take (i := 17) (v := .bool true) rfl (by kernel_rfl) (by kernel_rfl) (by kernel_rfl) (fun _ _ _ h => h) (Or.inl ⟨by kernel_rfl, by (intro W hS; go_simp; first | done | with_reducible rfl | rfl)⟩) hS2 ?_
    (try simp only [Act.put, List.getElem_toArray, List.getElem_cons_zero, List.getElem_cons_succ, List.setIfInBounds_toArray, List.set_cons_zero, List.set_cons_succ])
    refine wpAnyH_take (i := 18) (v := .bool true) rfl (by kernel_rfl) (by kernel_rfl) (by kernel_rfl) (fun _ _ _ h => h) (Or.inl ⟨by kernel_rfl, by (intro W hS; go_simp; first | done | with_reducible rfl | rfl)⟩) hS2 ?_
    refine wpAnyH_take (i := 19) (v := .int .i64 cn) rfl (by kernel_rfl) (by kernel_rfl) (by kernel_rfl) (fun _ _ _ h => h) (Or.inl ⟨by kernel_rfl, by (intro W hS; go_simp; first | done | with_reducible rfl | rfl)⟩) hS2 ?_
    refine wpAnyH_take (i := 20) (v := .bool true) rfl (by kernel_rfl) (by kernel_rfl) (by kernel_rfl) (fun _ _ _ h => h) (Or.inl ⟨by kernel_rfl, by (intro W hS; go_simp; first | done | with_reducible rfl | rfl)⟩) hS2 ?_
    refine wpAnyH_take (i := 21) (v := .bool true) rfl (by kernel_rfl) (by kernel_rfl) (by kernel_rfl) (fun _ _ _ h => h) (Or.inl ⟨by kernel_rfl, by (intro W hS; go_simp; first | done | with_reducible rfl | rfl)⟩) hS2 ?_
    (try simp only [Act.put, List.getElem_toArray, List.getElem_cons_zero, List.getElem_cons_succ, List.setIfInBounds_toArray, List.set_cons_zero, List.set_cons_succ])
    refine wpAnyH_take (i := 22) (v := undef) rfl (by kernel_rfl) (by kernel_rfl) (by kernel_rfl) (fun _ _ _ h => h) (Or.inr ⟨by kernel_rfl, rfl⟩) hS2 ?_
    refine wpAnyH_take (i := 23) (v := undef) rfl (by kernel_rfl) (by kernel_rfl) (by kernel_rfl) (fun _ _ _ h => h) (Or.inr ⟨by kernel_rfl, rfl⟩) hS2 ?_
    refine wpAnyH_take (i := 24) (v := undef) rfl (by kernel_rfl) (by kernel_rfl) (by kernel_rfl) (fun _ _ _ h => h) (Or.inr ⟨by kernel_rfl, rfl⟩) hS2 ?_
    refine wpAnyH_take (i := 25) (v := undef) rfl (by kernel_rfl) (by kernel_rfl) (by kernel_rfl) (fun _ _ _ h => h) (Or.inr ⟨by kernel_rfl, rfl⟩) hS2 ?_
    (try simp only [Act.put, List.getElem_toArray, List.getElem_cons_zero, List.getElem_cons_succ, List.setIfInBounds_toArray, List.set_cons_zero, List.set_cons_succ])
    refine wpAnyH_take (i := 26) (v := undef) rfl (by kernel_rfl) (by kernel_rfl) (by kernel_rfl) (fun _ _ _ h => h) (Or.inr ⟨by kernel_rfl, rfl⟩) hS2 ?_
    refine wpAnyH_take (i := 27) (v := .bool true) rfl (by kernel_rfl) (by kernel_rfl) (by kernel_rfl) (fun _ _ _ h => h) (Or.inl ⟨by kernel_rfl, by (intro W hS; go_simp; first | done | with_reducible rfl | rfl)⟩) hS2 ?_
    refine wpAnyH_take (i := 28) (v := .bool true) rfl (by kernel_rfl) (by kernel_rfl) (by kernel_rfl) (fun _ _ _ h => h) (Or.inl ⟨by kernel_rfl, by (intro W hS; go_simp; first | done | with_reducible rfl | rfl)⟩) hS2 ?_
    refine wpAnyH_take (i := 29) (v := .bool true) rfl (by kernel_rfl) (by kernel_rfl) (by kernel_rfl) (fun _ _ _ h => h) (Or.inl ⟨by kernel_rfl, by (intro W hS; go_simp; first | done | with_reducible rfl | rfl)⟩) hS2 ?_
    (try simp only [Act.put, List.getElem_toArray, List.getElem_cons_zero, List.getElem_cons_succ, List.setIfInBounds_toArray, List.set_cons_zero, List.set_cons_succ])
    (try simp only [Act.put, List.getElem_toArray, List.getElem_cons_zero, List.getElem_cons_succ, List.setIfInBounds_toArray, List.set_cons_zero, List.set_cons_succ])
    refine wpAnyH_done (by kernel_rfl) ?_ _
    go_wp2
    go_ret
    exact ⟨rfl, HBa.out.trans (hS2.mono HBa.out.size)⟩
  · have g1 : decide (0 ≤ cn) = false := decide_eq_false hneg
    have g2 : ((m : Int) == (l.length : Int)) = true := by
      have := HCX.out (by omega)
      simp [this]
    have g3 : (m == l.length) = true := by
      have := HCX.out (by omega)
      simp [this]
    go_wp2_with fail
    go_region_held3 (fun W => W.cell? ⟨w3br.heap.size, 0, none⟩ = some (.bool true) ∧ W.cell? ⟨w3br.heap.size, 1, none⟩ = some (.slice tA1 its.length tc1) ∧ W.cell? ⟨w3br.heap.size, 2, none⟩ = some (.slice tA2 ds.length tc2) ∧ W.cell? ⟨w3br.heap.size, 3, none⟩ = some (.int .i64 (m : Int)) ∧ W.cell? ⟨w3br.heap.size, 4, none⟩ = some (.int .i64 n) ∧ W.cell? ⟨w3br.heap.size, 5, none⟩ = some (.int .i64 o))
      (first | exact HSS.out _ hBC | exact HSS.out _ hBB | exact HSS.out _ hbr)
      (first
        | (go_at_call 44; refine (HLW.out wb usb fqb hBB HOB.out HNB.out.lt).mono ?_; rintro e wc ⟨rfl, hbc⟩; have hBC := hBB.trans (hbc.mono hBB.size); clear HOB HNB hbc)
        | (go_at_call 45; refine (HSER.out wa.drew hbr).mono ?_; rintro e wb ⟨usb, fqb, rfl, hob, hnb, hbb⟩; rw [HSE.out] at hob; have HOB := hide hob; have HNB := hide hnb; have hBB := hbr.trans (hbb.mono hbr.size); clear hob hnb hbb))
    all_goals
      go_wp2
      go_ret
      exact ⟨rfl, HBa.out.trans (hBC.mono HBa.out.size)⟩
end Go.Proofs.Ytpkjjfnfolbcoaa
