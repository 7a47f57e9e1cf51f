/-
  FnCrewTop returns true for every input: a play that nobody stops gives just what the jobs give one behind the other, in so many steps. No condition.
-/
import Derived.Deep.RegionHeld3
import Derived.Laws.CopyOwn
import Derived.Test.YtpkjjfnfolbcoaaQCrewSerial
import Derived.Test.YtpkjjfnfolbcoaaQPlayS8
import Derived.Test.YtpkjjfnfolbcoaaQPlayI5
import Derived.Test.YtpkjjfnfolbcoaaQLwTold
import Derived.Test.YtpkjjfnfolbcoaaQDrawP
import Derived.Test.YtpkjjfnfolbcoaaQPlayE
set_option linter.unusedVariables false
set_option linter.unusedSimpArgs false
namespace Go.Proofs.Ytpkjjfnfolbcoaa
open Go.ChangeShapes Go.WideShapes Go.ChangeAt Go.RowKit

theorem top_parts {l : List CrewJob} {b c : Int} {ps : List Int} {its : List Int} {ds : List CrewDead} {j n o : Int} (h : playOf l b c ps (-1) = CrewTold.mk true its ds j n o) :
    j = (l.length : Int) ∧ serialOf l = CrewTold.mk true its ds (l.length : Int) 0 0 ∧ n = 11 * (l.length : Int) + b + 6 ∧ o ≤ n ∧ l.length ≤ 60 ∧ (1 ≤ b ∧ b ≤ 8) := by
  by_cases hp : playFits l b c ps
  · obtain ⟨m, k, q, he, hm, hk, hq0, hq1, hcx⟩ := playOf_cut l b c ps (-1) hp
    obtain ⟨h1, h2, h3⟩ := hcx (by omega)
    subst h1
    rw [List.take_length] at he
    rw [he] at h
    injection h with e1 e2 e3 e4 e5 e6
    have hc := hp.1
    unfold crewOk at hc
    refine ⟨by rw [← e4]; rfl, ?_, by omega, by omega, hp.2.1.1, hc.2.1⟩
    unfold serialOf
    rw [if_pos (tb_true hp.2.1), ← e2, ← e3]
    rfl
  · rw [playOf_no l b c ps (-1) hp] at h
    injection h with e1
    cases e1
theorem top_none {l : List CrewJob} {b c : Int} {ps : List Int} {its : List Int} {ds : List CrewDead} {j n o : Int} (h : playOf l b c ps (-1) = CrewTold.mk false its ds j n o) : j = 0 ∧ n = 0 ∧ o = 0 := by
  by_cases hp : playFits l b c ps
  · obtain ⟨m, k, q, he, _⟩ := playOf_cut l b c ps (-1) hp
    rw [he] at h
    injection h with e1
    cases e1
  · rw [playOf_no l b c ps (-1) hp] at h
    injection h with e1 e2 e3 e4 e5 e6
    exact ⟨e4.symm, e5.symm, e6.symm⟩
set_option maxRecDepth 100000 in
set_option maxHeartbeats 8000000 in
theorem lawFnCrewTop_any (w : World) (x0 : List UInt8) (A0 : Option Addr) (m0 c0 : Nat) (fp0 : List Nat) (ho0 : Ow w (.s 1 (x0).length ((x0).flatMap byteC)) (.slice A0 m0 c0) fp0) (hl0 : Lt fp0 w.heap.size) :
    Calls Try.prog 10 #[.slice A0 m0 c0] w fun e w' => e = .returned (.bool true) ∧ Below w.heap.size w w' := by
  obtain ⟨rfl, hc0, hm0⟩ := ho0.nlen
  by_cases hz0 : (x0.length : Int) ≤ 1048576
  rotate_left
  · have hz' : (1048576 : Int) < x0.length := by omega
    go_enter Try.func10, Try.ntmps10
    go_wp2
    go_ret
    exact ⟨rfl, Below.refl _ _⟩
  have HD := hide (drawCrewPlay_any x0 A0 _ c0 fp0 w ho0 hl0 (by omega))
  clear ho0
  go_enter Try.func10, Try.ntmps10
  go_wp2_with fail
  refine HD.out.mono ?_
  rintro e w3 ⟨v, v3, l, ps, fq, fp, b, c, cn, rfl, oj, nj, hbk, op, np, hpl, hb, hc, hcn, hb3⟩
  obtain ⟨A3, c3, rfl, hlc, hcm⟩ := oj.slice
  obtain ⟨A4, c4, rfl, hlp, hpm⟩ := op.slice
  have HO3 := hide oj
  have HN3 := hide nj
  have HP3 := hide op
  have HQ3 := hide np
  have HB3 := hide hb3
  have HBK := hide hbk
  clear oj nj op np hb3 hbk HD
  have hwb : (Lit.int .i64 b).wf = true := WalkArith.wf_i64 ⟨by omega, by omega⟩
  have hwc : (Lit.int .i64 c).wf = true := WalkArith.wf_i64 ⟨by omega, by omega⟩
  have hwn : (Lit.int .i64 cn).wf = true := WalkArith.wf_i64 ⟨by omega, by omega⟩
  have hps : ps.length ≤ 1048576 := by omega
  obtain ⟨r0, hr0⟩ : ∃ r, r = serialOf l := ⟨_, rfl⟩
  obtain ⟨sok, sits, sds, sj, sn, so⟩ := r0
  have HS := hide hr0.symm
  clear hr0
  have HC := hide (specCrewSerial_any l A3 _ c3 fq w3 HO3.out HN3.out.lt (by have := HBK.out; omega))
  go_wp2_with fail
  refine HC.out.mono ?_
  rintro e w3r ⟨us3r, fq3r, rfl, ho3r, hn3r, hb3r⟩
  rw [HS.out] at ho3r
  have T5 := ho3r.oCrewTold
  dsimp only at T5
  obtain ⟨sA1, sc1, sA2, sc2, sf1, sf2, rfl, to1, to2, tw3, tw4, tw5, tef⟩ := T5
  clear to1 to2 tw3 tw4 tw5 tef HC
  obtain ⟨w3b, hw3b⟩ : ∃ u, u = w3r.alloc (.cells #[.bool sok, .slice sA1 sits.length sc1, .slice sA2 sds.length sc2, .int .i64 sj, .int .i64 sn, .int .i64 so] 45) := ⟨_, rfl⟩
  have hA : Below w3r.heap.size w3r w3b := by rw [hw3b]; exact (Below.refl _ _).alloc (Nat.le_refl _) _
  have hS := hb3r.trans (hA.mono hb3r.size)
  have HO3b := hide (HO3.out.below hS HN3.out.lt)
  have HN3b := hide (HN3.out.below hS HN3.out.lt)
  have HP3b := hide (HP3.out.below hS HQ3.out.lt)
  have HQ3b := hide (HQ3.out.below hS HQ3.out.lt)
  have HB3b := hide (HB3.out.trans (hS.mono HB3.out.size))
  clear HO3 HN3 HP3 HQ3 HB3
  have HWs3b := hide (ho3r.below hA hn3r.lt)
  have HMs3b := hide (hn3r.below hA hn3r.lt)
  have HXs3b := hide (show Row w3b w3r.heap.size 45 [.bool sok, .slice sA1 sits.length sc1, .slice sA2 sds.length sc2, .int .i64 sj, .int .i64 sn, .int .i64 so] from by rw [hw3b]; exact Row.new w3r _ _)
  clear ho3r hn3r hb3r hA hS
  obtain ⟨r0, hr0⟩ : ∃ r, r = playOf l b c ps (-1) := ⟨_, rfl⟩
  obtain ⟨ok, its, ds, j, n, o⟩ := r0
  have HE := hide hr0.symm
  clear hr0
  have HC := hide (show Calls Try.prog 26 _ (w3r.alloc (.cells #[.bool sok, .slice sA1 sits.length sc1, .slice sA2 sds.length sc2, .int .i64 sj, .int .i64 sn, .int .i64 so] 45)) (PlayRet l b c ps (-1) w3b) from by rw [← hw3b]; exact specCrewPlay_k l A3 _ c3 fq b c ps A4 _ c4 fp (-1) w3b HO3b.out HN3b.out.lt HP3b.out HQ3b.out.lt hps hwb hwc (by decide))
  go_wp2_with fail
  refine HC.out.mono ?_
  rintro e w3br ⟨us3br, fq3br, rfl, ho3br, hn3br, hb3br⟩
  rw [HE.out] at ho3br
  have T5 := ho3br.oCrewTold
  dsimp only at T5
  obtain ⟨pA1, pc1, pA2, pc2, pf1, pf2, rfl, to1, to2, tw3, tw4, tw5, tef⟩ := T5
  clear to1 to2 tw3 tw4 tw5 tef HC
  obtain ⟨w3bb, hw3bb⟩ : ∃ u, u = w3br.alloc (.cells #[.bool ok, .slice pA1 its.length pc1, .slice pA2 ds.length pc2, .int .i64 j, .int .i64 n, .int .i64 o] 45) := ⟨_, rfl⟩
  have hA : Below w3br.heap.size w3br w3bb := by rw [hw3bb]; exact (Below.refl _ _).alloc (Nat.le_refl _) _
  have hS := hb3br.trans (hA.mono hb3br.size)
  have HO3bb := hide (HO3b.out.below hS HN3b.out.lt)
  have HN3bb := hide (HN3b.out.below hS HN3b.out.lt)
  have HP3bb := hide (HP3b.out.below hS HQ3b.out.lt)
  have HQ3bb := hide (HQ3b.out.below hS HQ3b.out.lt)
  have HWs3bb := hide (HWs3b.out.below hS HMs3b.out.lt)
  have HMs3bb := hide (HMs3b.out.below hS HMs3b.out.lt)
  have HXs3bb := hide (HXs3b.out.below hS HXs3b.out.lt)
  have HB3bb := hide (HB3b.out.trans (hS.mono HB3b.out.size))
  clear HO3b HN3b HP3b HQ3b HWs3b HMs3b HXs3b HB3b
  have HWp3bb := hide (ho3br.below hA hn3br.lt)
  have HMp3bb := hide (hn3br.below hA hn3br.lt)
  have HXp3bb := hide (show Row w3bb w3br.heap.size 45 [.bool ok, .slice pA1 its.length pc1, .slice pA2 ds.length pc2, .int .i64 j, .int .i64 n, .int .i64 o] from by rw [hw3bb]; exact Row.new w3br _ _)
  clear ho3br hn3br hb3br hA hS
  have HC := hide (show Calls Try.prog 29 _ (w3br.alloc (.cells #[.bool ok, .slice pA1 its.length pc1, .slice pA2 ds.length pc2, .int .i64 j, .int .i64 n, .int .i64 o] 45)) (PlayRet l b c ps (-1) w3bb) from by rw [← hw3bb]; exact implCrewPlay_k l A3 _ c3 fq b c ps A4 _ c4 fp (-1) w3bb HO3bb.out HN3bb.out.lt HP3bb.out HQ3bb.out.lt hps hwb hwc (by decide))
  go_wp2_with fail
  refine HC.out.mono ?_
  rintro e w3bbr ⟨us3bbr, fq3bbr, rfl, ho3bbr, hn3bbr, hb3bbr⟩
  rw [HE.out] at ho3bbr
  have T5 := ho3bbr.oCrewTold
  dsimp only at T5
  obtain ⟨tA1, tc1, tA2, tc2, tf1, tf2, rfl, to1, to2, tw3, tw4, tw5, tef⟩ := T5
  clear to1 to2 tw3 tw4 tw5 tef HC
  obtain ⟨w3bbb, hw3bbb⟩ : ∃ u, u = w3bbr.alloc (.cells #[.bool ok, .slice tA1 its.length tc1, .slice tA2 ds.length tc2, .int .i64 j, .int .i64 n, .int .i64 o] 45) := ⟨_, rfl⟩
  have hA : Below w3bbr.heap.size w3bbr w3bbb := by rw [hw3bbb]; exact (Below.refl _ _).alloc (Nat.le_refl _) _
  have hS := hb3bbr.trans (hA.mono hb3bbr.size)
  have HO3bbb := hide (HO3bb.out.below hS HN3bb.out.lt)
  have HN3bbb := hide (HN3bb.out.below hS HN3bb.out.lt)
  have HP3bbb := hide (HP3bb.out.below hS HQ3bb.out.lt)
  have HQ3bbb := hide (HQ3bb.out.below hS HQ3bb.out.lt)
  have HWs3bbb := hide (HWs3bb.out.below hS HMs3bb.out.lt)
  have HMs3bbb := hide (HMs3bb.out.below hS HMs3bb.out.lt)
  have HWp3bbb := hide (HWp3bb.out.below hS HMp3bb.out.lt)
  have HMp3bbb := hide (HMp3bb.out.below hS HMp3bb.out.lt)
  have HXs3bbb := hide (HXs3bb.out.below hS HXs3bb.out.lt)
  have HXp3bbb := hide (HXp3bb.out.below hS HXp3bb.out.lt)
  have HB3bbb := hide (HB3bb.out.trans (hS.mono HB3bb.out.size))
  clear HO3bb HN3bb HP3bb HQ3bb HWs3bb HMs3bb HWp3bb HMp3bb HXs3bb HXp3bb HB3bb
  have HWt3bbb := hide (ho3bbr.below hA hn3bbr.lt)
  have HMt3bbb := hide (hn3bbr.below hA hn3bbr.lt)
  have HXt3bbb := hide (show Row w3bbb w3bbr.heap.size 45 [.bool ok, .slice tA1 its.length tc1, .slice tA2 ds.length tc2, .int .i64 j, .int .i64 n, .int .i64 o] from by rw [hw3bbb]; exact Row.new w3bbr _ _)
  clear ho3bbr hn3bbr hb3bbr hA hS
  have s0 := HXs3bbb.out.cell 0
  have s1 := HXs3bbb.out.cell 1
  have s2 := HXs3bbb.out.cell 2
  have s3 := HXs3bbb.out.cell 3
  have s4 := HXs3bbb.out.cell 4
  have s5 := HXs3bbb.out.cell 5
  have sl := HXs3bbb.out.lt
  have p0 := HXp3bbb.out.cell 0
  have p1 := HXp3bbb.out.cell 1
  have p2 := HXp3bbb.out.cell 2
  have p3 := HXp3bbb.out.cell 3
  have p4 := HXp3bbb.out.cell 4
  have p5 := HXp3bbb.out.cell 5
  have pl := HXp3bbb.out.lt
  have t0 := HXt3bbb.out.cell 0
  have t1 := HXt3bbb.out.cell 1
  have t2 := HXt3bbb.out.cell 2
  have t3 := HXt3bbb.out.cell 3
  have t4 := HXt3bbb.out.cell 4
  have t5 := HXt3bbb.out.cell 5
  have tl := HXt3bbb.out.lt
  go_upto_region 7 with fail
  rw [← hw3bbb]
  clear hw3bbb hw3bb hw3b
  obtain ⟨wa, hwa⟩ : ∃ u, u = w3bbb := ⟨_, rfl⟩
  have hS0 : Below w3bbb.heap.size w3bbb wa := by rw [hwa]; exact Below.refl _ _
  clear s0 s1 s2 s3 s4 s5 sl p0 p1 p2 p3 p4 p5 pl t0 t1 t2 t3 t4 t5 tl
  have HSER := hide (fun (W : World) (hb : Below w3bbb.heap.size w3bbb W) => implCrewSerial_any l A3 _ c3 fq W (HO3bbb.out.below hb HN3bbb.out.lt) (HN3bbb.out.lt.up hb) (by have := HBK.out; omega))
  have HLP := hide (fun (W : World) (hb : Below w3bbb.heap.size w3bbb W) => lwTold_same (CrewTold.mk ok its ds j n o) _ _ _ _ W (HWt3bbb.out.below hb HMt3bbb.out.lt) (HWp3bbb.out.below hb HMp3bbb.out.lt) (HMt3bbb.out.lt.up hb) (HMp3bbb.out.lt.up hb))
  have HLS := hide (fun (W : World) (us : List Value) (fp : List Nat) (hb : Below w3bbb.heap.size w3bbb W) (ho : OwC W (CrewTold.mk sok sits sds sj sn so).cells us fp) (hf : Lt fp W.heap.size) => lwTold_same (CrewTold.mk sok sits sds sj sn so) us _ _ _ W ho (HWs3bbb.out.below hb HMs3bbb.out.lt) hf (HMs3bbb.out.lt.up hb))
  have HSS := hide (fun (W : World) (hb : Below w3bbb.heap.size w3bbb W) => show W.cell? ⟨w3r.heap.size, 0, none⟩ = some (.bool sok) ∧ W.cell? ⟨w3r.heap.size, 1, none⟩ = some (.slice sA1 sits.length sc1) ∧ W.cell? ⟨w3r.heap.size, 2, none⟩ = some (.slice sA2 sds.length sc2) ∧ W.cell? ⟨w3r.heap.size, 3, none⟩ = some (.int .i64 sj) ∧ W.cell? ⟨w3r.heap.size, 4, none⟩ = some (.int .i64 sn) ∧ W.cell? ⟨w3r.heap.size, 5, none⟩ = some (.int .i64 so) ∧ W.cell? ⟨w3br.heap.size, 0, none⟩ = some (.bool ok) ∧ W.cell? ⟨w3br.heap.size, 1, none⟩ = some (.slice pA1 its.length pc1) ∧ W.cell? ⟨w3br.heap.size, 2, none⟩ = some (.slice pA2 ds.length pc2) ∧ W.cell? ⟨w3br.heap.size, 3, none⟩ = some (.int .i64 j) ∧ W.cell? ⟨w3br.heap.size, 4, none⟩ = some (.int .i64 n) ∧ W.cell? ⟨w3br.heap.size, 5, none⟩ = some (.int .i64 o) ∧ W.cell? ⟨w3bbr.heap.size, 0, none⟩ = some (.bool ok) ∧ W.cell? ⟨w3bbr.heap.size, 1, none⟩ = some (.slice tA1 its.length tc1) ∧ W.cell? ⟨w3bbr.heap.size, 2, none⟩ = some (.slice tA2 ds.length tc2) ∧ W.cell? ⟨w3bbr.heap.size, 3, none⟩ = some (.int .i64 j) ∧ W.cell? ⟨w3bbr.heap.size, 4, none⟩ = some (.int .i64 n) ∧ W.cell? ⟨w3bbr.heap.size, 5, none⟩ = some (.int .i64 o) from ⟨(HXs3bbb.out.below hb HXs3bbb.out.lt).cell 0, (HXs3bbb.out.below hb HXs3bbb.out.lt).cell 1, (HXs3bbb.out.below hb HXs3bbb.out.lt).cell 2, (HXs3bbb.out.below hb HXs3bbb.out.lt).cell 3, (HXs3bbb.out.below hb HXs3bbb.out.lt).cell 4, (HXs3bbb.out.below hb HXs3bbb.out.lt).cell 5, (HXp3bbb.out.below hb HXp3bbb.out.lt).cell 0, (HXp3bbb.out.below hb HXp3bbb.out.lt).cell 1, (HXp3bbb.out.below hb HXp3bbb.out.lt).cell 2, (HXp3bbb.out.below hb HXp3bbb.out.lt).cell 3, (HXp3bbb.out.below hb HXp3bbb.out.lt).cell 4, (HXp3bbb.out.below hb HXp3bbb.out.lt).cell 5, (HXt3bbb.out.below hb HXt3bbb.out.lt).cell 0, (HXt3bbb.out.below hb HXt3bbb.out.lt).cell 1, (HXt3bbb.out.below hb HXt3bbb.out.lt).cell 2, (HXt3bbb.out.below hb HXt3bbb.out.lt).cell 3, (HXt3bbb.out.below hb HXt3bbb.out.lt).cell 4, (HXt3bbb.out.below hb HXt3bbb.out.lt).cell 5⟩)
  clear hS0 hwa
  have hbr : Below w3bbb.heap.size w3bbb w3bbb.drew := below_drewN (Below.refl _ _) 1
  have nn1 : (n != n) = false := by simp
  have nn2 : (o != o) = false := by simp
  go_wp2_with fail
  go_region_held3 (fun W => W.cell? ⟨w3r.heap.size, 0, none⟩ = some (.bool sok) ∧ W.cell? ⟨w3r.heap.size, 1, none⟩ = some (.slice sA1 sits.length sc1) ∧ W.cell? ⟨w3r.heap.size, 2, none⟩ = some (.slice sA2 sds.length sc2) ∧ W.cell? ⟨w3r.heap.size, 3, none⟩ = some (.int .i64 sj) ∧ W.cell? ⟨w3r.heap.size, 4, none⟩ = some (.int .i64 sn) ∧ W.cell? ⟨w3r.heap.size, 5, none⟩ = some (.int .i64 so) ∧ W.cell? ⟨w3br.heap.size, 0, none⟩ = some (.bool ok) ∧ W.cell? ⟨w3br.heap.size, 1, none⟩ = some (.slice pA1 its.length pc1) ∧ W.cell? ⟨w3br.heap.size, 2, none⟩ = some (.slice pA2 ds.length pc2) ∧ W.cell? ⟨w3br.heap.size, 3, none⟩ = some (.int .i64 j) ∧ W.cell? ⟨w3br.heap.size, 4, none⟩ = some (.int .i64 n) ∧ W.cell? ⟨w3br.heap.size, 5, none⟩ = some (.int .i64 o) ∧ W.cell? ⟨w3bbr.heap.size, 0, none⟩ = some (.bool ok) ∧ W.cell? ⟨w3bbr.heap.size, 1, none⟩ = some (.slice tA1 its.length tc1) ∧ W.cell? ⟨w3bbr.heap.size, 2, none⟩ = some (.slice tA2 ds.length tc2) ∧ W.cell? ⟨w3bbr.heap.size, 3, none⟩ = some (.int .i64 j) ∧ W.cell? ⟨w3bbr.heap.size, 4, none⟩ = some (.int .i64 n) ∧ W.cell? ⟨w3bbr.heap.size, 5, none⟩ = some (.int .i64 o))
    (first | exact HSS.out _ hBE | exact HSS.out _ hBD | exact HSS.out _ hBC | exact HSS.out _ hBB | exact HSS.out _ hbr)
    (first
      | (go_at_call 44; refine (HLS.out wc usc fqc hBC HOC.out HNC.out.lt).mono ?_; rintro e wd ⟨rfl, hbd⟩; have hBD := hBC.trans (hbd.mono hBC.size); clear HOC HNC hbd)
      | (go_at_call 45; refine (HSER.out wb hBB).mono ?_; rintro e wc ⟨usc, fqc, rfl, hoc, hnc, hbc⟩; rw [HS.out] at hoc; have HOC := hide hoc; have HNC := hide hnc; have hBC := hBB.trans (hbc.mono hBB.size); clear hoc hnc hbc)
      | (go_at_call 44; refine (HLP.out w3bbb.drew hbr).mono ?_; rintro e wb ⟨rfl, hbb⟩; have hBB := hbr.trans (hbb.mono hbr.size); clear hbb))
  all_goals
    clear HSER HLP HLS hbr nn1 nn2
    have HOd := hide (HO3bbb.out.below hBD HN3bbb.out.lt)
    have HNd := hide (HN3bbb.out.below hBD HN3bbb.out.lt)
    have HPd := hide (HP3bbb.out.below hBD HQ3bbb.out.lt)
    have HQd := hide (HQ3bbb.out.below hBD HQ3bbb.out.lt)
    have HWsd := hide (HWs3bbb.out.below hBD HMs3bbb.out.lt)
    have HMsd := hide (HMs3bbb.out.below hBD HMs3bbb.out.lt)
    have HWpd := hide (HWp3bbb.out.below hBD HMp3bbb.out.lt)
    have HMpd := hide (HMp3bbb.out.below hBD HMp3bbb.out.lt)
    have HWtd := hide (HWt3bbb.out.below hBD HMt3bbb.out.lt)
    have HMtd := hide (HMt3bbb.out.below hBD HMt3bbb.out.lt)
    have HXsd := hide (HXs3bbb.out.below hBD HXs3bbb.out.lt)
    have HXpd := hide (HXp3bbb.out.below hBD HXp3bbb.out.lt)
    have HXtd := hide (HXt3bbb.out.below hBD HXt3bbb.out.lt)
    have HBd := hide (HB3bbb.out.trans (hBD.mono HB3bbb.out.size))
    clear HO3bbb HN3bbb HP3bbb HQ3bbb HWs3bbb HMs3bbb HWp3bbb HMp3bbb HWt3bbb HMt3bbb HXs3bbb HXp3bbb HXt3bbb HB3bbb
    clear HSS hBB hBC hBD
    have s0 := HXsd.out.cell 0
    have s1 := HXsd.out.cell 1
    have s2 := HXsd.out.cell 2
    have s3 := HXsd.out.cell 3
    have s4 := HXsd.out.cell 4
    have s5 := HXsd.out.cell 5
    have sl := HXsd.out.lt
    have p0 := HXpd.out.cell 0
    have pl := HXpd.out.lt
    have t0 := HXtd.out.cell 0
    have t1 := HXtd.out.cell 1
    have t2 := HXtd.out.cell 2
    have t3 := HXtd.out.cell 3
    have t4 := HXtd.out.cell 4
    have t5 := HXtd.out.cell 5
    have tl := HXtd.out.lt
    by_cases hok : ok = true
    rotate_left
    · have hokf : ok = false := by simpa using hok
      subst hokf
      obtain ⟨rfl, rfl, rfl⟩ := top_none HE.out
      clear hok
      go_wp2
      go_ret
      exact ⟨rfl, HBd.out⟩
    subst hok
    obtain ⟨rfl, hser, hn, hon, hl60, hbb⟩ := top_parts HE.out
    rw [HS.out] at hser
    injection hser with y1 y2 y3 y4 y5 y6
    subst y1 y2 y3 y4 y5 y6
    clear HE HS
    have k1 : IntKind.i64.wrap (11 * (l.length : Int)) = 11 * (l.length : Int) := wrapI _ (by omega) (by omega)
    have k2 : IntKind.i64.wrap (11 * (l.length : Int) + b) = 11 * (l.length : Int) + b := wrapI _ (by omega) (by omega)
    have k3 : IntKind.i64.wrap (11 * (l.length : Int) + b + 6) = 11 * (l.length : Int) + b + 6 := wrapI _ (by omega) (by omega)
    have k4 : wrap64 (11 * (l.length : Int)) = 11 * (l.length : Int) := by unfold wrap64; omega
    have k5 : wrap64 (11 * (l.length : Int) + b) = 11 * (l.length : Int) + b := by unfold wrap64; omega
    have k6 : wrap64 (11 * (l.length : Int) + b + 6) = 11 * (l.length : Int) + b + 6 := by unfold wrap64; omega
    have q1 : (n == 11 * (l.length : Int) + b + 6) = true := by rw [hn]; simp
    have q2 : decide (o ≤ n) = true := decide_eq_true hon
    have HC := hide (lwTold_like (CrewTold.mk true sits sds (l.length : Int) n o) 0 0 _ _ _ _ wd HWtd.out HWsd.out HMtd.out.lt HMsd.out.lt)
    clear hn hon
    go_wp2_with fail
    refine HC.out.mono ?_
    rintro e wf ⟨rfl, hbf⟩
    clear s0 s1 s2 s3 s4 s5 sl p0 pl t0 t1 t2 t3 t4 t5 tl HC
    have HOf := hide (HOd.out.below hbf HNd.out.lt)
    have HNf := hide (HNd.out.below hbf HNd.out.lt)
    have HPf := hide (HPd.out.below hbf HQd.out.lt)
    have HQf := hide (HQd.out.below hbf HQd.out.lt)
    have HWsf := hide (HWsd.out.below hbf HMsd.out.lt)
    have HMsf := hide (HMsd.out.below hbf HMsd.out.lt)
    have HWpf := hide (HWpd.out.below hbf HMpd.out.lt)
    have HMpf := hide (HMpd.out.below hbf HMpd.out.lt)
    have HWtf := hide (HWtd.out.below hbf HMtd.out.lt)
    have HMtf := hide (HMtd.out.below hbf HMtd.out.lt)
    have HXsf := hide (HXsd.out.below hbf HXsd.out.lt)
    have HXpf := hide (HXpd.out.below hbf HXpd.out.lt)
    have HXtf := hide (HXtd.out.below hbf HXtd.out.lt)
    have HBf := hide (HBd.out.trans (hbf.mono HBd.out.size))
    clear HOd HNd HPd HQd HWsd HMsd HWpd HMpd HWtd HMtd HXsd HXpd HXtd HBd
    clear hbf
    have t4 := HXtf.out.cell 4
    have t5 := HXtf.out.cell 5
    have tl := HXtf.out.lt
    go_wp2
    go_ret
    exact ⟨rfl, HBf.out⟩
end Go.Proofs.Ytpkjjfnfolbcoaa
