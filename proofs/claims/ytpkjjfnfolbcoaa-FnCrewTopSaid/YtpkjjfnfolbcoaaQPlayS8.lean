/-
  The play of a crew: the reference.
-/
import Derived.Test.YtpkjjfnfolbcoaaQPlayT
set_option linter.unusedVariables false
set_option linter.unusedSimpArgs false
namespace Go.Proofs.Ytpkjjfnfolbcoaa
open Go.ChangeShapes Go.WideShapes Go.ChangeAt Go.RowKit

set_option maxRecDepth 100000 in
set_option maxHeartbeats 8000000 in
theorem specCrewPlay_k (l : List CrewJob) (A : Option Addr) (n c : Nat) (fp : List Nat) (n1 n2 : Int) (ps : List Int) (A3 : Option Addr) (n3 c3 : Nat) (fp3 : List Nat) (cn : Int) (w : World) (h : Ow w (.s 2 l.length (l.flatMap CrewJob.cells)) (.slice A n c) fp) (hf : Lt fp w.heap.size) (h3 : Ow w (.s 1 ps.length (ps.flatMap intC)) (.slice A3 n3 c3) fp3) (hf3 : Lt fp3 w.heap.size) (hps : ps.length ≤ 1048576) (hw1 : (Lit.int .i64 n1).wf = true) (hw2 : (Lit.int .i64 n2).wf = true) (hwc : (Lit.int .i64 cn).wf = true) :
    Calls Try.prog 26 #[.slice A n c, .int .i64 n1, .int .i64 n2, .slice A3 n3 c3, .int .i64 cn] w (PlayRet l n1 n2 ps cn w) := by
  obtain ⟨rfl, hc, hm⟩ := h.nlen
  obtain ⟨rfl, hc3, hm3⟩ := h3.nlen
  unfold maxLen at hm hm3
  have HO := hide h
  have HP := hide h3
  clear h h3
  go_enter Try.func26, Try.ntmps26
  go_upto_region 1 with fail
  generalize hww1 : w.alloc _ = w1
  have hb1 : Below w.heap.size w w1 := by rw [← hww1]; exact (Below.refl _ _).alloc (Nat.le_refl _) _
  have HZ1 := hide (show Row w1 w.heap.size 45 toldZero from by rw [← hww1]; exact Row.new w _ _)
  have HB1 := hide hb1
  have HST := hide (specCrewStart_any (l.length : Int) n1 n2 w1 (WalkArith.wf_i64 (by omega)) hw1 hw2)
  clear hww1 hb1
  go_upto_region 2 with (first | (go_at_call 22; refine HST.out.mono ?_; rintro e w2 ⟨us, fq, rfl, ho, hn, hb2⟩; have HO2 := hide ho; have HN2 := hide hn; have HW2 := hide hb2; have HI2 := hide (owc_info ho); have HU2 := hide (owc_size ho); have H12 := hide (owc_one ho); have HNR := hide (Row.new w2 30 zeroCells); clear ho hn hb2) | (refine wpList_store_row rfl 30 _ _ rfl (w2.heap.size) (us).toArray rfl rfl 30 (zeroCells).toArray HNR.out HI2.out HU2.out.symm H12.out ?_) | fail)
  have hbn := box_new HO2.out HN2.out.lt zeroCells
  have hz2 := rowFar' ((HZ1.out.below HW2.out HZ1.out.lt).alloc (.cells zeroCells.toArray 30)) (b := w2.heap.size) (fun e => by have := HZ1.out.lt; have := HW2.out.size; omega) us.toArray
  have hbx := (Row.new w2 30 zeroCells).setRow' us
  have HB2 := hide (show Below w.heap.size w ((w2.alloc (.cells #[.int .i64 0, .int .i64 0, .int .i64 0, .int .i64 0, .int .i64 0, .slice none 0 0, .slice none 0 0, .int .i64 0, .slice none 0 0, .int .i64 0, .slice none 0 0, .int .i64 0, .slice none 0 0, .int .i64 0, .slice none 0 0, .int .i64 0, .slice none 0 0, .int .i64 0] 30)).setRow w2.heap.size us.toArray) from HB1.out.trans ((HW2.out.mono HB1.out.size).trans (hbn.2.2.mono (Nat.le_trans HB1.out.size HW2.out.size))))
  have HRZ := hide (show Rz w ((w2.alloc (.cells #[.int .i64 0, .int .i64 0, .int .i64 0, .int .i64 0, .int .i64 0, .slice none 0 0, .slice none 0 0, .int .i64 0, .slice none 0 0, .int .i64 0, .slice none 0 0, .int .i64 0, .slice none 0 0, .int .i64 0, .slice none 0 0, .int .i64 0, .slice none 0 0, .int .i64 0] 30)).setRow w2.heap.size us.toArray) w2.heap.size (startOf (l.length : Int) n1 n2) us fq from ⟨hbx, hbn.1, hbn.2.1, fun hm => by have := (HN2.out.fr _ hm).2; omega, fun hm => by have := (HN2.out.fr _ hm).1; have := HZ1.out.lt; omega, hz2, HB2.out, by have := HZ1.out.lt; have := HW2.out.size; omega⟩)
  clear hbn hz2 hbx HNR H12 HU2 HI2 HW2 HN2 HO2 HST HZ1 HB1
  generalize (w2.alloc _).setRow _ _ = w3 at HB2 HRZ ⊢
  generalize w2.heap.size = b at HRZ ⊢
  have HZ2 := hide HRZ.out.res
  have lz := HZ2.out.lt
  have lb := HRZ.out.box.lt
  have HJ := hide (l53Ok_any l _ _ _ _ w3 (HO.out.below HB2.out hf) (hf.up HB2.out))
  have HZB := hide (fun (W : World) (hb : Below w3.heap.size w3 W) => show Row W w.heap.size 45 toldZero from HZ2.out.below hb HZ2.out.lt)
  by_cases hc0 : crewOk (l.length : Int) n1 n2
  rotate_left
  · have HR := hide (show playOf l n1 n2 ps cn = CrewTold.none_ from by unfold playOf; rw [if_neg (by rw [tb_false (fun hh => hc0 hh.1)]; simp)])
    have ct : tb (crewOk (l.length : Int) n1 n2) = false := tb_false hc0
    clear hc0
    go_wp2_with (first | (refine wpList_store_row rfl 45 _ _ rfl (w.heap.size) (toldZero).toArray rfl rfl 45 (toldZero).toArray HZ2.out (by kernel_rfl) rfl toldZero_one ?_) | fail)
    refine bodyPost_ret (ret_row rfl _ _ w.heap.size 45 toldZero (Row.setRow' (cs := toldZero) HZ2.out toldZero) _ rfl Try.underlying45 rfl (by kernel_rfl)) rfl ?_
    unfold PlayRet
    rw [HR.out]
    have hg := setRow_grown (grown_refl w3 (some w.heap.size)) toldZero.toArray
    exact ⟨toldZero, [], rfl, crewNone_ow _, New.nil _ _, HB2.out.trans (below_of_grown hg (Nat.le_refl _) HB2.out.size)⟩
  have ct : tb (crewOk (l.length : Int) n1 n2) = true := tb_true hc0
  have HC0 := hide hc0
  clear hc0
  by_cases hj0 : jobsOk l
  rotate_left
  · have HR := hide (show playOf l n1 n2 ps cn = CrewTold.none_ from by unfold playOf; rw [if_neg (by rw [tb_false (fun hh => hj0 hh.2.1)]; simp)])
    rw [tb_false hj0] at HJ
    clear hj0
    go_wp2_with (first | (go_at_call 72; refine HJ.out.mono ?_; rintro e w4 ⟨rfl, hb4⟩; replace HRZ := hide (HRZ.out.below hb4); replace HB2 := hide HRZ.out.fr; replace HZ2 := hide HRZ.out.res; have lz4 := HZ2.out.lt; have lb4 := HRZ.out.box.lt; clear hb4) | (refine wpList_store_row rfl 45 _ _ rfl (w.heap.size) (toldZero).toArray rfl rfl 45 (toldZero).toArray HZ2.out (by kernel_rfl) rfl toldZero_one ?_) | fail)
    all_goals
      refine bodyPost_ret (ret_row rfl _ _ w.heap.size 45 toldZero (Row.setRow' (cs := toldZero) HZ2.out toldZero) _ rfl Try.underlying45 rfl (by kernel_rfl)) rfl ?_
      unfold PlayRet
      rw [HR.out]
      have hg := setRow_grown (grown_refl w4 (some w.heap.size)) toldZero.toArray
      exact ⟨toldZero, [], rfl, crewNone_ow _, New.nil _ _, HB2.out.trans (below_of_grown hg (Nat.le_refl _) HB2.out.size)⟩
  rw [tb_true hj0] at HJ
  have HJ0 := hide hj0
  clear hj0
  by_cases hp0 : ps.length ≤ 2000
  rotate_left
  · have HR := hide (show playOf l n1 n2 ps cn = CrewTold.none_ from by unfold playOf; rw [if_neg (by rw [tb_false (fun hh => hp0 hh.2.2)]; simp)])
    have dp : decide ((2000 : Int) < (ps.length : Int)) = true := dec_true (by omega)
    have dpn : decide (2000 < ps.length) = true := dec_true (by omega)
    go_wp2_with (first | (go_at_call 72; refine HJ.out.mono ?_; rintro e w4 ⟨rfl, hb4⟩; replace HRZ := hide (HRZ.out.below hb4); replace HB2 := hide HRZ.out.fr; replace HZ2 := hide HRZ.out.res; have lz4 := HZ2.out.lt; have lb4 := HRZ.out.box.lt; clear hb4) | (refine wpList_store_row rfl 45 _ _ rfl (w.heap.size) (toldZero).toArray rfl rfl 45 (toldZero).toArray HZ2.out (by kernel_rfl) rfl toldZero_one ?_) | fail)
    all_goals
      refine bodyPost_ret (ret_row rfl _ _ w.heap.size 45 toldZero (Row.setRow' (cs := toldZero) HZ2.out toldZero) _ rfl Try.underlying45 rfl (by kernel_rfl)) rfl ?_
      unfold PlayRet
      rw [HR.out]
      have hg := setRow_grown (grown_refl w4 (some w.heap.size)) toldZero.toArray
      exact ⟨toldZero, [], rfl, crewNone_ow _, New.nil _ _, HB2.out.trans (below_of_grown hg (Nat.le_refl _) HB2.out.size)⟩
  have dp : decide ((2000 : Int) < (ps.length : Int)) = false := dec_false (by omega)
  have dpn : decide (2000 < ps.length) = false := dec_false (by omega)
  have HR := hide (show playOf l n1 n2 ps cn = playTold l (crewAt (l.length : Int) n1 n2) ps cn from by unfold playOf; rw [if_pos (tb_true ⟨HC0.out, HJ0.out, hp0⟩)])
  have hst : startOf (l.length : Int) n1 n2 = crewAt (l.length : Int) n1 n2 := by unfold startOf; rw [if_pos ct]
  rw [hst] at HRZ
  clear hst
  have HSO := hide (start_ok HC0.out)
  go_upto_region 4 with (first | (go_at_call 72; refine HJ.out.mono ?_; rintro e w4 ⟨rfl, hb4⟩; replace HRZ := hide (HRZ.out.below hb4); replace HB2 := hide HRZ.out.fr; replace HZ2 := hide HRZ.out.res; have lz4 := HZ2.out.lt; have lb4 := HRZ.out.box.lt; clear hb4) | fail)
  clear HJ HZB HZ2 HB2 ct dp dpn lz lb lz4 lb4
  generalize hx0 : crewAt (l.length : Int) n1 n2 = x0 at *
  have HX0 := hide hx0
  clear hx0
  go_upto_region 5 with fail
  go_loopw [13] (fun i wr => ∃ (t : Nat) (us : List Value) (fp' : List Nat), i = .int .i64 (t : Int) ∧ PlayTo x0 ps cn t ∧ t ≤ 674 ∧ Rz w wr b (runAt x0 ps cn t) us fp') (fun i _ => 675 - (intOf i).toNat)
  case atStart => exact ⟨0, _, _, rfl, PlayTo.zero _ _ _, by omega, HRZ.out⟩
  case round =>
    clear HRZ
    obtain ⟨t, us, fp', rfl, hpt, ht, hrz⟩ := hrel
    have HPT := hide hpt
    have HRA := hide hrz
    have HYK := hide (run_ok HSO.out ps cn t hpt).1
    have HRI := hide (show runIn x0 ps cn t = (runAt x0 ps cn t).cutAt t cn from rfl)
    generalize runAt x0 ps cn t = y at HRA HYK HRI
    clear hrz hpt
    have d675 : decide ((t : Int) < 675) = true := dec_true (by omega)
    have d675n : decide (t < 675) = true := dec_true (by omega)
    have la := HRA.out.box.lt
    have lz := HRA.out.res.lt
    have HIA := hide (owc_info HRA.out.dat)
    have HUA := hide (owc_size HRA.out.dat)
    by_cases hcn : (t : Int) = cn
    · have qn : ((t : Int) == cn) = true := beqt hcn
      have HCN := hide (specCrewCancel_any y us fp' wr HRA.out.dat HRA.out.lt HYK.out)
      have HRB := hide (fun (W : World) (hb : Below wr.heap.size wr W) => HRA.out.below hb)
      have hlb := HRA.out.hb
      by_cases hu : y.user = 0
      · have u0 : (y.user == 0) = true := beqt hu
        have HCE := hide (show y.cutAt t cn = y.cut from by unfold CrewWorld.cutAt; rw [if_pos ⟨hcn, hu⟩])
        clear hcn
        go_upto_region 10 with (first | (go_at_call 73; refine HCN.out.mono ?_; rintro e w7 ⟨us7, rfl, sz7, one7, hb7, hd7⟩; have HS7 := hide sz7; have HO7 := hide one7; have HW7 := hide hb7; have HD7 := hide hd7; have HI7 := hide (show (Try.prog.info? 30).map (·.size) = some us7.toArray.size from by rw [sz7]; exact info_crew); have HNR := hide (Row.new w7 30 zeroCells); have hbn7 : Below w7.heap.size w7 ((w7.alloc (.cells zeroCells.toArray 30)).setRow w7.heap.size us7.toArray) := (((Below.refl _ _).alloc (Nat.le_refl _) _).trans (below_of_grown (setRow_grown (grown_refl _ (some w7.heap.size)) us7.toArray) (Nat.le_refl _) (by rw [World.size_alloc]; omega))); have HR7 := hide (HRB.out _ (hb7.trans (hbn7.mono hb7.size))).box; have HB7 := hide ((Row.new w7 30 zeroCells).setRow' us7); have l7b := (HRB.out _ hb7).box.lt; clear sz7 one7 hb7 hd7 hbn7) | (refine wpList_load_row rfl 30 _ rfl (b) rfl 30 (us).toArray (0, 0) _ HRA.out.box Try.underlying30 rfl HIA.out ?_) | (refine wpList_store_row rfl 30 _ _ rfl (w7.heap.size) (us7).toArray rfl rfl 30 (zeroCells).toArray HNR.out HI7.out HS7.out.symm HO7.out ?_) | (refine wpList_load_row rfl 30 _ rfl (w7.heap.size) rfl 30 (us7).toArray (0, 0) _ HB7.out Try.underlying30 rfl HI7.out ?_) | (refine wpList_store_row rfl 30 _ _ rfl (b) (us7).toArray rfl rfl 30 (us).toArray HR7.out HI7.out (HUA.out.trans HS7.out.symm) HO7.out ?_) | fail)
        obtain ⟨fp7, o7, l7, g7⟩ := HD7.out hu
        have hbn := box_new o7 l7 zeroCells
        have hst := (HRA.out.store (HW7.out.trans (hbn.2.2.mono HW7.out.size)) hbn.1 hbn.2.1 g7)
        rw [← HCE.out, ← HRI.out] at hst
        obtain ⟨us9, fp9, hr9⟩ : ∃ us9 fp9, Rz w (((w7.alloc (.cells #[.int .i64 0, .int .i64 0, .int .i64 0, .int .i64 0, .int .i64 0, .slice none 0 0, .slice none 0 0, .int .i64 0, .slice none 0 0, .int .i64 0, .slice none 0 0, .int .i64 0, .slice none 0 0, .int .i64 0, .slice none 0 0, .int .i64 0, .slice none 0 0, .int .i64 0] 30)).setRow w7.heap.size us7.toArray).setRow b us7.toArray) b (runIn x0 ps cn t) us9 fp9 := ⟨us7, fp7, hst⟩
        have HRW := hide hr9
        clear hst hr9 hbn o7 l7 g7 HD7 HR7 HB7
        generalize World.setRow _ _ _ = W at HRW ⊢
        have hri := runIn_ok HSO.out HPT.out
        have hgot : (runIn x0 ps cn t).got.length ≤ l.length := by
          have h := HPT.out
          rw [← HX0.out] at h ⊢
          exact got_take HC0.out h
        obtain ⟨z, hz⟩ : ∃ z, z = runIn x0 ps cn t := ⟨_, rfl⟩
        have HZE := hide hz.symm
        rw [← hz] at HRW hri hgot
        clear hz
        have HZK := hide hri
        obtain ⟨z1, z2, z3, z4, z5, z6, z7⟩ := ok_lens hri
        obtain ⟨y1, y2, y3, y4, y5, y6, y7⟩ := ok_nums hri
        have HM := hide (show z.movesOf = z.moves from by unfold CrewWorld.movesOf; rw [if_pos (tb_true hri)])
        have hml : z.moves.length ≤ 3 * (z.workers.toNat + 4) := movesTo_len z _
        have hml2 : z.moves.length ≤ 36 := by omega
        have HIW := hide (owc_info HRW.out.dat)
        have HUW := hide (owc_size HRW.out.dat)
        have HCM := hide (specCrewMoves_any z us9 fp9 W HRW.out.dat HRW.out.lt (by omega))
        rw [HM.out] at HCM
        have HWB := hide (fun (W' : World) (hb : Below W.heap.size W W') => HRW.out.below hb)
        have lw := HRW.out.box.lt
        have lzw := HRW.out.res.lt
        clear hri hml HM
        go_upto_region 11 with (first | (refine wpList_load_row rfl 30 _ rfl (b) rfl 30 (us9).toArray (0, 0) _ HRW.out.box Try.underlying30 rfl HIW.out ?_) | (go_at_call 37; refine HCM.out.mono ?_; rintro e w10 ⟨v10, fq10, rfl, o10, n10, b10⟩; obtain ⟨A10, c10, e10, -, -⟩ := o10.slice; subst e10; have HO10 := hide o10; have HN10 := hide n10; have HR10 := hide (HWB.out w10 b10); have lt10 := HR10.out.box.lt; have lz10 := HR10.out.res.lt; clear o10 n10 b10) | fail)
        by_cases hm0 : z.moves.length = 0
        · have qm : ((z.moves.length : Int) == 0) = true := beqt (by omega)
          have qm2 : z.moves = [] := List.eq_nil_of_length_eq_zero hm0
          have HPE := hide (show PlayEnd x0 ps cn t from ⟨HPT.out, by rw [HZE.out]; exact hm0⟩)
          obtain ⟨A6, c6, u14, u17⟩ : ∃ (A6 : Option Addr) (c6 : Nat), us9[14]? = some (.slice A6 z.got.length c6) ∧ us9[17]? = some (.int .i64 z.ops) := by
            obtain ⟨A1, c1, A2, c2, A3, c3, A4, c4, A5, c5, A6, c6, A7, c7, f1, f2, f3, f4, f5, f6, f7, eus, wjobs, wworkers, wwindow, wnext, wreader, o1, o2, wcloser, o3, wkeeper, o4, wdue, o5, wuser, o6, wroom, o7, wops, rfl⟩ := HRW.out.dat.oCrewWorld
            rw [eus]
            exact ⟨A6, c6, rfl, rfl⟩
          have x14 : w10.cell? ⟨b, 14, none⟩ = some (.slice A6 z.got.length c6) := (HR10.out.box.cell 14).trans u14
          have HX17 := hide u17
          obtain ⟨fqt, hot, hsub⟩ := Ow.takeN CrewJob.cells_len (HO.out.below HR10.out.fr hf) z.got.length hgot
          have htl : (l.take z.got.length).length = z.got.length := by rw [List.length_take]; omega
          have HTD := hide (show Calls Try.prog 76 #[.slice A l.length c, .int .i64 (z.got.length : Int)] w10 (ToldRet (l.take z.got.length) w10) from by
            have h := l53ToldTo_any (l.take z.got.length) A l.length c fqt w10 hot (by rw [htl]; exact hgot) ((hf.up HR10.out.fr).sub hsub) (jobsOk_take HJ0.out _)
            rw [htl] at h
            exact h)
          clear u14 u17 hot hsub htl qm2
          go_upto_region 15 with (first | (go_at_call 76; refine HTD.out.mono ?_; rintro e w11 ⟨us11, fq11, rfl, o11, n11, b11⟩; obtain ⟨B1, d1, B2, d2, f1, f2, e11, o1, o2, x3, x4, x5, efp⟩ := o11.oCrewTold; subst e11; have HN11 := hide n11; have HO1 := hide o1; have HO2 := hide o2; have HEF := hide efp; have HWF := hide x3; have HR11 := hide (HR10.out.below b11); have HNT := hide (Row.new w11 45 toldZero); clear o11 n11 b11 o1 o2 efp) | (refine wpList_store_row rfl 45 _ _ rfl (w11.heap.size) ([.bool (toldOf (l.take z.got.length)).ok, .slice B1 (toldOf (l.take z.got.length)).items.length d1, .slice B2 (toldOf (l.take z.got.length)).dead.length d2, .int .i64 (toldOf (l.take z.got.length)).jobs, .int .i64 (toldOf (l.take z.got.length)).steps, .int .i64 (toldOf (l.take z.got.length)).ops] : List Value).toArray rfl rfl 45 (toldZero).toArray HNT.out (by kernel_rfl) rfl (by simp [Value.oneCell']) ?_) | fail)
          have HT15 := hide (show Row ((w11.alloc (.cells #[.bool false, .slice none 0 0, .slice none 0 0, .int .i64 0, .int .i64 0, .int .i64 0] 45)).setRow w11.heap.size ([.bool (toldOf (l.take z.got.length)).ok, .slice B1 (toldOf (l.take z.got.length)).items.length d1, .slice B2 (toldOf (l.take z.got.length)).dead.length d2, .int .i64 (toldOf (l.take z.got.length)).jobs, .int .i64 (toldOf (l.take z.got.length)).steps, .int .i64 (toldOf (l.take z.got.length)).ops] : List Value).toArray) w11.heap.size 45 [.bool (toldOf (l.take z.got.length)).ok, .slice B1 (toldOf (l.take z.got.length)).items.length d1, .slice B2 (toldOf (l.take z.got.length)).dead.length d2, .int .i64 (toldOf (l.take z.got.length)).jobs, .int .i64 (toldOf (l.take z.got.length)).steps, .int .i64 (toldOf (l.take z.got.length)).ops] from HNT.out.setRow' _)
          have HB15 := hide (show Below w11.heap.size w11 ((w11.alloc (.cells #[.bool false, .slice none 0 0, .slice none 0 0, .int .i64 0, .int .i64 0, .int .i64 0] 45)).setRow w11.heap.size ([.bool (toldOf (l.take z.got.length)).ok, .slice B1 (toldOf (l.take z.got.length)).items.length d1, .slice B2 (toldOf (l.take z.got.length)).dead.length d2, .int .i64 (toldOf (l.take z.got.length)).jobs, .int .i64 (toldOf (l.take z.got.length)).steps, .int .i64 (toldOf (l.take z.got.length)).ops] : List Value).toArray) from ((Below.refl _ _).alloc (Nat.le_refl _) _).trans (below_of_grown (setRow_grown (grown_refl _ (some w11.heap.size)) _) (Nat.le_refl _) (by rw [World.size_alloc]; omega)))
          have hbl := HR11.out.box.lt
          have hzl := HR11.out.res.lt
          generalize World.setRow _ _ _ = W15 at HT15 HB15 ⊢
          generalize hg17 : w11.heap.size = g17 at HT15 hbl hzl ⊢
          have HG17 := hide hg17
          clear hg17
          have x17 : W15.cell? ⟨b, 17, none⟩ = some (.int .i64 z.ops) := kc ((HR11.out.box.cell 17).trans HX17.out) HB15.out HR11.out.box.lt
          have t4 : W15.cell? ⟨g17, 4, none⟩ = some (.int .i64 (toldOf (l.take z.got.length)).steps) := HT15.out.cell 4
          have t5 : W15.cell? ⟨g17, 5, none⟩ = some (.int .i64 (toldOf (l.take z.got.length)).ops) := HT15.out.cell 5
          have tf4 : W15.frozen? ⟨g17, 4, none⟩ = false := HT15.out.frozen 4
          have tf5 : W15.frozen? ⟨g17, 5, none⟩ = false := HT15.out.frozen 5
          have tl := HT15.out.lt
          have HZ15 := hide (HR11.out.res.below HB15.out HR11.out.res.lt)
          have hzl15 := HZ15.out.lt
          have hbl15 : b < W15.heap.size := by omega
          have hgz : w.heap.size ≠ g17 := by omega
          have hgb : b ≠ g17 := by omega
          go_upto_region 17 with fail
          have HT17 := hide (show Row _ g17 45 [.bool (toldOf (l.take z.got.length)).ok, .slice B1 (toldOf (l.take z.got.length)).items.length d1, .slice B2 (toldOf (l.take z.got.length)).dead.length d2, .int .i64 (toldOf (l.take z.got.length)).jobs, .int .i64 (t : Int), .int .i64 z.ops] from (HT15.out.set 4 (.int .i64 (t : Int))).set 5 (.int .i64 z.ops))
          have HZ17 := hide ((HZ15.out.far (p := ⟨g17, 4, none⟩) hgz (.int .i64 (t : Int))).far (p := ⟨g17, 5, none⟩) hgz (.int .i64 z.ops))
          have HB17 := hide ((HB15.out.setCell (p := ⟨g17, 4, none⟩) (Nat.le_of_eq HG17.out) (.int .i64 (t : Int))).setCell (p := ⟨g17, 5, none⟩) (Nat.le_of_eq HG17.out) (.int .i64 z.ops))
          generalize World.setCell _ _ _ = W17 at HT17 HZ17 HB17 ⊢
          clear x17 t4 t5 tf4 tf5 tl hzl15 hbl15
          have tl := HT17.out.lt
          have zl17 := HZ17.out.lt
          have HONE := hide (show ([.bool (toldOf (l.take z.got.length)).ok, .slice B1 (toldOf (l.take z.got.length)).items.length d1, .slice B2 (toldOf (l.take z.got.length)).dead.length d2, .int .i64 (toldOf (l.take z.got.length)).jobs, .int .i64 (t : Int), .int .i64 z.ops] : List Value).toArray.all (·.oneCell') = true from by simp [Value.oneCell'])
          go_wp2_with (first | (refine wpList_load_row rfl 45 _ rfl (g17) rfl 45 ([.bool (toldOf (l.take z.got.length)).ok, .slice B1 (toldOf (l.take z.got.length)).items.length d1, .slice B2 (toldOf (l.take z.got.length)).dead.length d2, .int .i64 (toldOf (l.take z.got.length)).jobs, .int .i64 (t : Int), .int .i64 z.ops] : List Value).toArray (0, 0) _ HT17.out Try.underlying45 rfl (by kernel_rfl) ?_) | (refine wpList_store_row rfl 45 _ _ rfl (w.heap.size) ([.bool (toldOf (l.take z.got.length)).ok, .slice B1 (toldOf (l.take z.got.length)).items.length d1, .slice B2 (toldOf (l.take z.got.length)).dead.length d2, .int .i64 (toldOf (l.take z.got.length)).jobs, .int .i64 (t : Int), .int .i64 z.ops] : List Value).toArray rfl rfl 45 (toldZero).toArray HZ17.out (by kernel_rfl) rfl HONE.out ?_) | fail)
          refine bodyPost_ret (ret_row rfl _ _ w.heap.size 45 [.bool (toldOf (l.take z.got.length)).ok, .slice B1 (toldOf (l.take z.got.length)).items.length d1, .slice B2 (toldOf (l.take z.got.length)).dead.length d2, .int .i64 (toldOf (l.take z.got.length)).jobs, .int .i64 (t : Int), .int .i64 z.ops] (HZ17.out.setRow' [.bool (toldOf (l.take z.got.length)).ok, .slice B1 (toldOf (l.take z.got.length)).items.length d1, .slice B2 (toldOf (l.take z.got.length)).dead.length d2, .int .i64 (toldOf (l.take z.got.length)).jobs, .int .i64 (t : Int), .int .i64 z.ops]) _ rfl Try.underlying45 rfl (by kernel_rfl)) rfl ?_
          unfold PlayRet
          rw [HR.out, playTold_eq HPE.out, HZE.out]
          have hg := setRow_grown (grown_refl W17 (some w.heap.size)) ([.bool (toldOf (l.take z.got.length)).ok, .slice B1 (toldOf (l.take z.got.length)).items.length d1, .slice B2 (toldOf (l.take z.got.length)).dead.length d2, .int .i64 (toldOf (l.take z.got.length)).jobs, .int .i64 (t : Int), .int .i64 z.ops] : List Value).toArray
          have hnz : w.heap.size ∉ fq11 := fun hm => by have := (HN11.out.fr _ hm).1; omega
          have hbw : Below w.heap.size w W17 := HR11.out.fr.trans (HB17.out.mono HR11.out.fr.size)
          have h1 := OwC.mCrewTold (x := { toldOf (l.take z.got.length) with steps := (t : Int), ops := z.ops }) HO1.out HO2.out HWF.out (show (Lit.int .i64 (t : Int)).wf = true from WalkArith.wf_i64 (by omega)) (show (Lit.int .i64 z.ops).wf = true from WalkArith.wf_i64 (by omega))
          rw [← show fq11 = _ from HEF.out] at h1
          have h2 := (h1.below HB17.out HN11.out.lt).grown hg (HN11.out.lt.up HB17.out) hnz
          exact ⟨_, fq11, rfl, h2, ((HN11.out.below HB17.out HN11.out.lt).grown hg (fun g e => by injection e with e; subst e; exact hnz)).mono (by omega), hbw.trans (below_of_grown hg (Nat.le_refl _) hbw.size)⟩
        · have hmp : 0 < z.moves.length := by omega
          have qm : ((z.moves.length : Int) == 0) = false := beqf (by omega)
          have qme : ¬ (z.moves = []) := fun e => hm0 (by rw [e]; rfl)
          obtain ⟨who, k, hpk, hwlt, hway, hgo⟩ := go_move ps t hmp
          have hplt := pickAt_lt ps t hmp
          rw [List.getElem?_eq_getElem hplt] at hpk
          have hel := Option.some.inj hpk
          have HST := hide (show runAt x0 ps cn (t + 1) = z.step who (k : Int) from by rw [runAt_succ, HZE.out]; exact hgo)
          obtain ⟨gm, offm, um, fm, eA, hgm, -, hul, hcm, hom⟩ := HO10.out.elem CrewMove.cells_len hplt
          subst eA
          rw [hel] at hom
          obtain ⟨rfl, wf1, wf2, -⟩ := hom.oCrewMove
          have c0 := hcm 0 _ rfl
          have c1 := hcm 1 _ rfl
          simp only [Nat.add_zero] at c0
          have HPK := hide (l53Pick_any ps A3 ps.length c3 fp3 w10.drew (HP.out.below (below_drewN HR10.out.fr 1) hf3) (hf3.up (below_drewN HR10.out.fr 1)) t z.moves.length hmp (by omega) (by omega) hps)
          have HR10D := hide (fun (W' : World) (hb : Below w10.drew.heap.size w10.drew W') => (show Rz w W' b z us9 fp9 ∧ (∀ o v, w10.cell? ⟨gm, o, none⟩ = some v → W'.cell? ⟨gm, o, none⟩ = some v) from
            have hbb : Below w10.heap.size w10 W' := (below_drewN (Below.refl _ _) 1).trans hb
            ⟨HR10.out.below hbb, fun o v h => kc h hbb (cell_lt h)⟩))
          have HCE2 := hide (show (∀ W : World, (∀ o v, w10.cell? ⟨gm, o, none⟩ = some v → W.cell? ⟨gm, o, none⟩ = some v) → W.cell? ⟨gm, offm + pickAt ps t z.moves.length * 2, none⟩ = some (.int .i64 (who : Int)) ∧ W.cell? ⟨gm, offm + pickAt ps t z.moves.length * 2 + 1, none⟩ = some (.int .i64 (k : Int))) from fun W h => ⟨h _ _ c0, h _ _ c1⟩)
          have hgml : gm < w10.heap.size := HN10.out.lt _ hgm
          have hgmb : b < gm := Nat.lt_of_lt_of_le lw (HN10.out.fr _ hgm).1
          clear hpk hel hcm hom hul hgm c0 c1 hgo
          generalize pickAt ps t z.moves.length = p at *
          have hpI : (p : Int) < (z.moves.length : Int) := by omega
          have hpI0 : (0 : Int) ≤ (p : Int) := by omega
          have hwho : (who : Int) ≤ z.workers + 3 := by omega
          go_upto_region 12 with fail
          refine wp_region_held_drew (S := fun W => (W.cell? ⟨gm, offm + p * 2, none⟩ = some (.int .i64 (who : Int)) ∧ W.cell? ⟨gm, offm + p * 2 + 1, none⟩ = some (.int .i64 (k : Int)))) (by kernel_rfl) (HCE2.out _ (HR10D.out w10.drew (Below.refl _ _)).2) (fun hS0 => ?_)
          refine wpAnyH_take (i := 1) (v := .slice (some ⟨gm, offm, none⟩) z.moves.length c10) rfl (by kernel_rfl) (by kernel_rfl) (by kernel_rfl) (fun _ _ _ h => h) (Or.inl ⟨by kernel_rfl, by (intro W hS; go_simp; first | done | with_reducible rfl | rfl)⟩) hS0 ?_
          (try simp only [Act.put, List.getElem_toArray, List.getElem_cons_zero, List.getElem_cons_succ, List.setIfInBounds_toArray, List.set_cons_zero, List.set_cons_succ])
          refine wpAnyH_take (i := 2) (v := .slice A3 ps.length c3) rfl (by kernel_rfl) (by kernel_rfl) (by kernel_rfl) (fun _ _ _ h => h) (Or.inl ⟨by kernel_rfl, by (intro W hS; go_simp; first | done | with_reducible rfl | rfl)⟩) hS0 ?_
          (try simp only [Act.put, List.getElem_toArray, List.getElem_cons_zero, List.getElem_cons_succ, List.setIfInBounds_toArray, List.set_cons_zero, List.set_cons_succ])
          refine wpAnyH_take (i := 3) (v := .int .i64 (t : Int)) rfl (by kernel_rfl) (by kernel_rfl) (by kernel_rfl) (fun _ _ _ h => h) (Or.inl ⟨by kernel_rfl, by (intro W hS; go_simp; first | done | with_reducible rfl | rfl)⟩) hS0 ?_
          (try simp only [Act.put, List.getElem_toArray, List.getElem_cons_zero, List.getElem_cons_succ, List.setIfInBounds_toArray, List.set_cons_zero, List.set_cons_succ])
          refine wpAnyH_take (i := 4) (v := .slice (some ⟨gm, offm, none⟩) z.moves.length c10) rfl (by kernel_rfl) (by kernel_rfl) (by kernel_rfl) (fun _ _ _ h => h) (Or.inl ⟨by kernel_rfl, by (intro W hS; go_simp; first | done | with_reducible rfl | rfl)⟩) hS0 ?_
          (try simp only [Act.put, List.getElem_toArray, List.getElem_cons_zero, List.getElem_cons_succ, List.setIfInBounds_toArray, List.set_cons_zero, List.set_cons_succ])
          refine wpAnyH_take (i := 5) (v := .int .i64 (z.moves.length : Int)) rfl (by kernel_rfl) (by kernel_rfl) (by kernel_rfl) (fun _ _ _ h => h) (Or.inl ⟨by kernel_rfl, by (intro W hS; go_simp; first | done | with_reducible rfl | rfl)⟩) hS0 ?_
          (try simp only [Act.put, List.getElem_toArray, List.getElem_cons_zero, List.getElem_cons_succ, List.setIfInBounds_toArray, List.set_cons_zero, List.set_cons_succ])
          refine wpAnyH_ready (rs := [0, 6]) (by kernel_rfl) (by simp) ?_
          refine AllReadyH.cons rfl (fun K hK => ?_) (AllReadyH.cons rfl (fun K hK => ?_) AllReadyH.nil)
          · have HR10E := hide (HR10D.out w10.drew (Below.refl _ _)).1
            rw [if_pos (by simp [Region.wanted])]
            refine wp_load_row 30 _ rfl b rfl 30 us9.toArray (0, 0) _ HR10E.out.box Try.underlying30 rfl HIW.out ?_
            refine hK.out _ _ (hS0) (fun _ => ?_)
            clear hK K
            refine wpAnyH_ready (rs := [6]) (by kernel_rfl) (by simp) ?_
            refine AllReadyH.cons rfl (fun K hK => ?_) AllReadyH.nil
            go_simp
            go_at_call 75
            refine HPK.out.mono ?_
            rintro e w11 ⟨rfl, b11⟩
            have HR11 := hide (HR10D.out w11 b11)
            have hS1 := HCE2.out _ HR11.out.2
            clear b11
            try go_simp
            refine hK.out _ _ (hS1) (fun _ => ?_)
            clear hK K
            refine wpAnyH_take (i := 7) (v := .pointer (some ⟨gm, offm + p * 2, none⟩)) rfl (by kernel_rfl) (by kernel_rfl) (by kernel_rfl) (fun _ _ _ h => h) (Or.inl ⟨by kernel_rfl, by (intro W hS; go_simp; first | done | with_reducible rfl | rfl)⟩) hS1 ?_
            (try simp only [Act.put, List.getElem_toArray, List.getElem_cons_zero, List.getElem_cons_succ, List.setIfInBounds_toArray, List.set_cons_zero, List.set_cons_succ])
            refine wpAnyH_take (i := 8) (v := .agg #[.int .i64 (who : Int), .int .i64 (k : Int)]) rfl (by kernel_rfl) (by kernel_rfl) (by kernel_rfl) (fun _ _ _ h => h) (Or.inl ⟨by kernel_rfl, by (intro W hS; obtain ⟨hS_0, hS_1⟩ := hS; go_simp; first | done | with_reducible rfl | rfl)⟩) hS1 ?_
            (try simp only [Act.put, List.getElem_toArray, List.getElem_cons_zero, List.getElem_cons_succ, List.setIfInBounds_toArray, List.set_cons_zero, List.set_cons_succ])
            have HSTP := hide (specCrewStep_any z us9 fp9 w11 HR11.out.1.dat HR11.out.1.lt HZK.out who k hwho hway)
            refine wpAnyH_ready (rs := [9]) (by kernel_rfl) (by simp) ?_
            refine AllReadyH.cons rfl (fun K hK => ?_) AllReadyH.nil
            go_simp
            go_at_call 74
            refine HSTP.out.mono ?_
            rintro e w12 ⟨us12, fp12, rfl, o12, l12, g12, b12⟩
            have HR12 := hide (HR11.out.1.below b12)
            have hS2 := HCE2.out w12 (fun o v h => kc (HR11.out.2 o v h) b12 (cell_lt (HR11.out.2 o v h)))
            have HRF := hide (HR11.out.1.store b12 o12 l12 g12)
            have HI12 := hide (owc_info o12)
            have HU12 := hide (owc_size o12)
            have HN12 := hide (owc_one o12)
            clear o12 l12 g12 b12 HSTP
            try go_simp
            refine hK.out _ _ hS2 (fun _ => ?_)
            clear hK K
            refine wpAnyH_take (i := 10) (v := .tuple #[.agg us12.toArray, .bool true]) rfl (by kernel_rfl) (by kernel_rfl) (by kernel_rfl) (fun _ _ _ h => h) (Or.inl ⟨by kernel_rfl, by (intro W hS; go_simp; first | done | with_reducible rfl | rfl)⟩) hS2 ?_
            (try simp only [Act.put, List.getElem_toArray, List.getElem_cons_zero, List.getElem_cons_succ, List.setIfInBounds_toArray, List.set_cons_zero, List.set_cons_succ])
            refine wpAnyH_take (i := 11) (v := .agg us12.toArray) rfl (by kernel_rfl) (by kernel_rfl) (by kernel_rfl) (fun _ _ _ h => h) (Or.inl ⟨by kernel_rfl, by (intro W hS; go_simp; first | done | with_reducible rfl | rfl)⟩) hS2 ?_
            (try simp only [Act.put, List.getElem_toArray, List.getElem_cons_zero, List.getElem_cons_succ, List.setIfInBounds_toArray, List.set_cons_zero, List.set_cons_succ])
            refine wpAnyH_take (i := 12) (v := .bool true) rfl (by kernel_rfl) (by kernel_rfl) (by kernel_rfl) (fun _ _ _ h => h) (Or.inl ⟨by kernel_rfl, by (intro W hS; go_simp; first | done | with_reducible rfl | rfl)⟩) hS2 ?_
            (try simp only [Act.put, List.getElem_toArray, List.getElem_cons_zero, List.getElem_cons_succ, List.setIfInBounds_toArray, List.set_cons_zero, List.set_cons_succ])
            refine wpAnyH_ready (rs := [13]) (by kernel_rfl) (by simp) ?_
            refine AllReadyH.cons rfl (fun K hK => ?_) AllReadyH.nil
            rw [if_pos (by simp [Region.wanted])]
            refine wp_store_row 30 _ _ rfl b us12.toArray rfl rfl 30 us9.toArray HR12.out.box HI12.out (HUW.out.trans HU12.out.symm) HN12.out ?_
            have hS3 : ((w12.setRow b us12.toArray).cell? ⟨gm, offm + p * 2, none⟩ = some (.int .i64 (who : Int)) ∧ (w12.setRow b us12.toArray).cell? ⟨gm, offm + p * 2 + 1, none⟩ = some (.int .i64 (k : Int))) := by
              have hh := setRow_other w12 b gm us12.toArray (by omega)
              exact ⟨(World.cell?_of_block (a := ⟨gm, offm + p * 2, none⟩) hh).trans hS2.1, (World.cell?_of_block (a := ⟨gm, offm + p * 2 + 1, none⟩) hh).trans hS2.2⟩
            refine hK.out _ _ hS3 (fun _ => ?_)
            clear hK K
            refine wpAnyH_done (by kernel_rfl) ?_ _
            go_wp2_with fail
            go_roundw
            case rel =>
              have hp2 := HPT.out.succ (by rw [HZE.out]; exact hmp)
              refine ⟨t + 1, us12, fp12, by go_num, hp2, ?_, ?_⟩
              · rw [← HX0.out] at hp2
                exact played_le HC0.out hp2
              · rw [HST.out]
                exact HRF.out
            case measure => simp [intOf]; omega
          · skip
            go_simp
            go_at_call 75
            refine HPK.out.mono ?_
            rintro e w11 ⟨rfl, b11⟩
            have HR11 := hide (HR10D.out w11 b11)
            have hS1 := HCE2.out _ HR11.out.2
            clear b11
            try go_simp
            refine hK.out _ _ (hS1) (fun _ => ?_)
            clear hK K
            refine wpAnyH_take (i := 7) (v := .pointer (some ⟨gm, offm + p * 2, none⟩)) rfl (by kernel_rfl) (by kernel_rfl) (by kernel_rfl) (fun _ _ _ h => h) (Or.inl ⟨by kernel_rfl, by (intro W hS; go_simp; first | done | with_reducible rfl | rfl)⟩) hS1 ?_
            (try simp only [Act.put, List.getElem_toArray, List.getElem_cons_zero, List.getElem_cons_succ, List.setIfInBounds_toArray, List.set_cons_zero, List.set_cons_succ])
            refine wpAnyH_take (i := 8) (v := .agg #[.int .i64 (who : Int), .int .i64 (k : Int)]) rfl (by kernel_rfl) (by kernel_rfl) (by kernel_rfl) (fun _ _ _ h => h) (Or.inl ⟨by kernel_rfl, by (intro W hS; obtain ⟨hS_0, hS_1⟩ := hS; go_simp; first | done | with_reducible rfl | rfl)⟩) hS1 ?_
            (try simp only [Act.put, List.getElem_toArray, List.getElem_cons_zero, List.getElem_cons_succ, List.setIfInBounds_toArray, List.set_cons_zero, List.set_cons_succ])
            refine wpAnyH_ready (rs := [0]) (by kernel_rfl) (by simp) ?_
            refine AllReadyH.cons rfl (fun K hK => ?_) AllReadyH.nil
            rw [if_pos (by simp [Region.wanted])]
            refine wp_load_row 30 _ rfl b rfl 30 us9.toArray (0, 0) _ HR11.out.1.box Try.underlying30 rfl HIW.out ?_
            refine hK.out _ _ (hS1) (fun _ => ?_)
            clear hK K
            have HSTP := hide (specCrewStep_any z us9 fp9 w11 HR11.out.1.dat HR11.out.1.lt HZK.out who k hwho hway)
            refine wpAnyH_ready (rs := [9]) (by kernel_rfl) (by simp) ?_
            refine AllReadyH.cons rfl (fun K hK => ?_) AllReadyH.nil
            go_simp
            go_at_call 74
            refine HSTP.out.mono ?_
            rintro e w12 ⟨us12, fp12, rfl, o12, l12, g12, b12⟩
            have HR12 := hide (HR11.out.1.below b12)
            have hS2 := HCE2.out w12 (fun o v h => kc (HR11.out.2 o v h) b12 (cell_lt (HR11.out.2 o v h)))
            have HRF := hide (HR11.out.1.store b12 o12 l12 g12)
            have HI12 := hide (owc_info o12)
            have HU12 := hide (owc_size o12)
            have HN12 := hide (owc_one o12)
            clear o12 l12 g12 b12 HSTP
            try go_simp
            refine hK.out _ _ hS2 (fun _ => ?_)
            clear hK K
            refine wpAnyH_take (i := 10) (v := .tuple #[.agg us12.toArray, .bool true]) rfl (by kernel_rfl) (by kernel_rfl) (by kernel_rfl) (fun _ _ _ h => h) (Or.inl ⟨by kernel_rfl, by (intro W hS; go_simp; first | done | with_reducible rfl | rfl)⟩) hS2 ?_
            (try simp only [Act.put, List.getElem_toArray, List.getElem_cons_zero, List.getElem_cons_succ, List.setIfInBounds_toArray, List.set_cons_zero, List.set_cons_succ])
            refine wpAnyH_take (i := 11) (v := .agg us12.toArray) rfl (by kernel_rfl) (by kernel_rfl) (by kernel_rfl) (fun _ _ _ h => h) (Or.inl ⟨by kernel_rfl, by (intro W hS; go_simp; first | done | with_reducible rfl | rfl)⟩) hS2 ?_
            (try simp only [Act.put, List.getElem_toArray, List.getElem_cons_zero, List.getElem_cons_succ, List.setIfInBounds_toArray, List.set_cons_zero, List.set_cons_succ])
            refine wpAnyH_take (i := 12) (v := .bool true) rfl (by kernel_rfl) (by kernel_rfl) (by kernel_rfl) (fun _ _ _ h => h) (Or.inl ⟨by kernel_rfl, by (intro W hS; go_simp; first | done | with_reducible rfl | rfl)⟩) hS2 ?_
            (try simp only [Act.put, List.getElem_toArray, List.getElem_cons_zero, List.getElem_cons_succ, List.setIfInBounds_toArray, List.set_cons_zero, List.set_cons_succ])
            refine wpAnyH_ready (rs := [13]) (by kernel_rfl) (by simp) ?_
            refine AllReadyH.cons rfl (fun K hK => ?_) AllReadyH.nil
            rw [if_pos (by simp [Region.wanted])]
            refine wp_store_row 30 _ _ rfl b us12.toArray rfl rfl 30 us9.toArray HR12.out.box HI12.out (HUW.out.trans HU12.out.symm) HN12.out ?_
            have hS3 : ((w12.setRow b us12.toArray).cell? ⟨gm, offm + p * 2, none⟩ = some (.int .i64 (who : Int)) ∧ (w12.setRow b us12.toArray).cell? ⟨gm, offm + p * 2 + 1, none⟩ = some (.int .i64 (k : Int))) := by
              have hh := setRow_other w12 b gm us12.toArray (by omega)
              exact ⟨(World.cell?_of_block (a := ⟨gm, offm + p * 2, none⟩) hh).trans hS2.1, (World.cell?_of_block (a := ⟨gm, offm + p * 2 + 1, none⟩) hh).trans hS2.2⟩
            refine hK.out _ _ hS3 (fun _ => ?_)
            clear hK K
            refine wpAnyH_done (by kernel_rfl) ?_ _
            go_wp2_with fail
            go_roundw
            case rel =>
              have hp2 := HPT.out.succ (by rw [HZE.out]; exact hmp)
              refine ⟨t + 1, us12, fp12, by go_num, hp2, ?_, ?_⟩
              · rw [← HX0.out] at hp2
                exact played_le HC0.out hp2
              · rw [HST.out]
                exact HRF.out
            case measure => simp [intOf]; omega
      · have u0 : (y.user == 0) = false := beqf hu
        have HCE := hide (show y.cutAt t cn = y from by unfold CrewWorld.cutAt; rw [if_neg (fun hh => hu hh.2)])
        clear hcn
        go_upto_region 10 with (first | (go_at_call 73; refine HCN.out.mono ?_; rintro e w7 ⟨us7, rfl, sz7, one7, hb7, hd7⟩; have HS7 := hide sz7; have HO7 := hide one7; have HW7 := hide hb7; have HD7 := hide hd7; have HI7 := hide (show (Try.prog.info? 30).map (·.size) = some us7.toArray.size from by rw [sz7]; exact info_crew); have HNR := hide (Row.new w7 30 zeroCells); have hbn7 : Below w7.heap.size w7 ((w7.alloc (.cells zeroCells.toArray 30)).setRow w7.heap.size us7.toArray) := (((Below.refl _ _).alloc (Nat.le_refl _) _).trans (below_of_grown (setRow_grown (grown_refl _ (some w7.heap.size)) us7.toArray) (Nat.le_refl _) (by rw [World.size_alloc]; omega))); have HR7 := hide (HRB.out _ (hb7.trans (hbn7.mono hb7.size))).box; have HB7 := hide ((Row.new w7 30 zeroCells).setRow' us7); have l7b := (HRB.out _ hb7).box.lt; clear sz7 one7 hb7 hd7 hbn7) | (refine wpList_load_row rfl 30 _ rfl (b) rfl 30 (us).toArray (0, 0) _ HRA.out.box Try.underlying30 rfl HIA.out ?_) | (refine wpList_store_row rfl 30 _ _ rfl (w7.heap.size) (us7).toArray rfl rfl 30 (zeroCells).toArray HNR.out HI7.out HS7.out.symm HO7.out ?_) | fail)
        have hbn : Below w7.heap.size w7 ((w7.alloc (.cells #[.int .i64 0, .int .i64 0, .int .i64 0, .int .i64 0, .int .i64 0, .slice none 0 0, .slice none 0 0, .int .i64 0, .slice none 0 0, .int .i64 0, .slice none 0 0, .int .i64 0, .slice none 0 0, .int .i64 0, .slice none 0 0, .int .i64 0, .slice none 0 0, .int .i64 0] 30)).setRow w7.heap.size us7.toArray) := by
          have ha : Below w7.heap.size w7 (w7.alloc (.cells #[.int .i64 0, .int .i64 0, .int .i64 0, .int .i64 0, .int .i64 0, .slice none 0 0, .slice none 0 0, .int .i64 0, .slice none 0 0, .int .i64 0, .slice none 0 0, .int .i64 0, .slice none 0 0, .int .i64 0, .slice none 0 0, .int .i64 0, .slice none 0 0, .int .i64 0] 30)) := (Below.refl _ _).alloc (Nat.le_refl _) _
          exact ha.trans (below_of_grown (setRow_grown (grown_refl _ (some w7.heap.size)) us7.toArray) (Nat.le_refl _) ha.size)
        have hst := HRB.out _ (HW7.out.trans (hbn.mono HW7.out.size))
        rw [← show y.cutAt t cn = y from HCE.out, ← HRI.out] at hst
        obtain ⟨us9, fp9, hr9⟩ : ∃ us9 fp9, Rz w ((w7.alloc (.cells #[.int .i64 0, .int .i64 0, .int .i64 0, .int .i64 0, .int .i64 0, .slice none 0 0, .slice none 0 0, .int .i64 0, .slice none 0 0, .int .i64 0, .slice none 0 0, .int .i64 0, .slice none 0 0, .int .i64 0, .slice none 0 0, .int .i64 0, .slice none 0 0, .int .i64 0] 30)).setRow w7.heap.size us7.toArray) b (runIn x0 ps cn t) us9 fp9 := ⟨us, fp', hst⟩
        have HRW := hide hr9
        clear hst hr9 hbn HD7 HR7 HB7
        generalize World.setRow _ _ _ = W at HRW ⊢
        have hri := runIn_ok HSO.out HPT.out
        have hgot : (runIn x0 ps cn t).got.length ≤ l.length := by
          have h := HPT.out
          rw [← HX0.out] at h ⊢
          exact got_take HC0.out h
        obtain ⟨z, hz⟩ : ∃ z, z = runIn x0 ps cn t := ⟨_, rfl⟩
        have HZE := hide hz.symm
        rw [← hz] at HRW hri hgot
        clear hz
        have HZK := hide hri
        obtain ⟨z1, z2, z3, z4, z5, z6, z7⟩ := ok_lens hri
        obtain ⟨y1, y2, y3, y4, y5, y6, y7⟩ := ok_nums hri
        have HM := hide (show z.movesOf = z.moves from by unfold CrewWorld.movesOf; rw [if_pos (tb_true hri)])
        have hml : z.moves.length ≤ 3 * (z.workers.toNat + 4) := movesTo_len z _
        have hml2 : z.moves.length ≤ 36 := by omega
        have HIW := hide (owc_info HRW.out.dat)
        have HUW := hide (owc_size HRW.out.dat)
        have HCM := hide (specCrewMoves_any z us9 fp9 W HRW.out.dat HRW.out.lt (by omega))
        rw [HM.out] at HCM
        have HWB := hide (fun (W' : World) (hb : Below W.heap.size W W') => HRW.out.below hb)
        have lw := HRW.out.box.lt
        have lzw := HRW.out.res.lt
        clear hri hml HM
        go_upto_region 11 with (first | (refine wpList_load_row rfl 30 _ rfl (b) rfl 30 (us9).toArray (0, 0) _ HRW.out.box Try.underlying30 rfl HIW.out ?_) | (go_at_call 37; refine HCM.out.mono ?_; rintro e w10 ⟨v10, fq10, rfl, o10, n10, b10⟩; obtain ⟨A10, c10, e10, -, -⟩ := o10.slice; subst e10; have HO10 := hide o10; have HN10 := hide n10; have HR10 := hide (HWB.out w10 b10); have lt10 := HR10.out.box.lt; have lz10 := HR10.out.res.lt; clear o10 n10 b10) | fail)
        by_cases hm0 : z.moves.length = 0
        · have qm : ((z.moves.length : Int) == 0) = true := beqt (by omega)
          have qm2 : z.moves = [] := List.eq_nil_of_length_eq_zero hm0
          have HPE := hide (show PlayEnd x0 ps cn t from ⟨HPT.out, by rw [HZE.out]; exact hm0⟩)
          obtain ⟨A6, c6, u14, u17⟩ : ∃ (A6 : Option Addr) (c6 : Nat), us9[14]? = some (.slice A6 z.got.length c6) ∧ us9[17]? = some (.int .i64 z.ops) := by
            obtain ⟨A1, c1, A2, c2, A3, c3, A4, c4, A5, c5, A6, c6, A7, c7, f1, f2, f3, f4, f5, f6, f7, eus, wjobs, wworkers, wwindow, wnext, wreader, o1, o2, wcloser, o3, wkeeper, o4, wdue, o5, wuser, o6, wroom, o7, wops, rfl⟩ := HRW.out.dat.oCrewWorld
            rw [eus]
            exact ⟨A6, c6, rfl, rfl⟩
          have x14 : w10.cell? ⟨b, 14, none⟩ = some (.slice A6 z.got.length c6) := (HR10.out.box.cell 14).trans u14
          have HX17 := hide u17
          obtain ⟨fqt, hot, hsub⟩ := Ow.takeN CrewJob.cells_len (HO.out.below HR10.out.fr hf) z.got.length hgot
          have htl : (l.take z.got.length).length = z.got.length := by rw [List.length_take]; omega
          have HTD := hide (show Calls Try.prog 76 #[.slice A l.length c, .int .i64 (z.got.length : Int)] w10 (ToldRet (l.take z.got.length) w10) from by
            have h := l53ToldTo_any (l.take z.got.length) A l.length c fqt w10 hot (by rw [htl]; exact hgot) ((hf.up HR10.out.fr).sub hsub) (jobsOk_take HJ0.out _)
            rw [htl] at h
            exact h)
          clear u14 u17 hot hsub htl qm2
          go_upto_region 15 with (first | (go_at_call 76; refine HTD.out.mono ?_; rintro e w11 ⟨us11, fq11, rfl, o11, n11, b11⟩; obtain ⟨B1, d1, B2, d2, f1, f2, e11, o1, o2, x3, x4, x5, efp⟩ := o11.oCrewTold; subst e11; have HN11 := hide n11; have HO1 := hide o1; have HO2 := hide o2; have HEF := hide efp; have HWF := hide x3; have HR11 := hide (HR10.out.below b11); have HNT := hide (Row.new w11 45 toldZero); clear o11 n11 b11 o1 o2 efp) | (refine wpList_store_row rfl 45 _ _ rfl (w11.heap.size) ([.bool (toldOf (l.take z.got.length)).ok, .slice B1 (toldOf (l.take z.got.length)).items.length d1, .slice B2 (toldOf (l.take z.got.length)).dead.length d2, .int .i64 (toldOf (l.take z.got.length)).jobs, .int .i64 (toldOf (l.take z.got.length)).steps, .int .i64 (toldOf (l.take z.got.length)).ops] : List Value).toArray rfl rfl 45 (toldZero).toArray HNT.out (by kernel_rfl) rfl (by simp [Value.oneCell']) ?_) | fail)
          have HT15 := hide (show Row ((w11.alloc (.cells #[.bool false, .slice none 0 0, .slice none 0 0, .int .i64 0, .int .i64 0, .int .i64 0] 45)).setRow w11.heap.size ([.bool (toldOf (l.take z.got.length)).ok, .slice B1 (toldOf (l.take z.got.length)).items.length d1, .slice B2 (toldOf (l.take z.got.length)).dead.length d2, .int .i64 (toldOf (l.take z.got.length)).jobs, .int .i64 (toldOf (l.take z.got.length)).steps, .int .i64 (toldOf (l.take z.got.length)).ops] : List Value).toArray) w11.heap.size 45 [.bool (toldOf (l.take z.got.length)).ok, .slice B1 (toldOf (l.take z.got.length)).items.length d1, .slice B2 (toldOf (l.take z.got.length)).dead.length d2, .int .i64 (toldOf (l.take z.got.length)).jobs, .int .i64 (toldOf (l.take z.got.length)).steps, .int .i64 (toldOf (l.take z.got.length)).ops] from HNT.out.setRow' _)
          have HB15 := hide (show Below w11.heap.size w11 ((w11.alloc (.cells #[.bool false, .slice none 0 0, .slice none 0 0, .int .i64 0, .int .i64 0, .int .i64 0] 45)).setRow w11.heap.size ([.bool (toldOf (l.take z.got.length)).ok, .slice B1 (toldOf (l.take z.got.length)).items.length d1, .slice B2 (toldOf (l.take z.got.length)).dead.length d2, .int .i64 (toldOf (l.take z.got.length)).jobs, .int .i64 (toldOf (l.take z.got.length)).steps, .int .i64 (toldOf (l.take z.got.length)).ops] : List Value).toArray) from ((Below.refl _ _).alloc (Nat.le_refl _) _).trans (below_of_grown (setRow_grown (grown_refl _ (some w11.heap.size)) _) (Nat.le_refl _) (by rw [World.size_alloc]; omega)))
          have hbl := HR11.out.box.lt
          have hzl := HR11.out.res.lt
          generalize World.setRow _ _ _ = W15 at HT15 HB15 ⊢
          generalize hg17 : w11.heap.size = g17 at HT15 hbl hzl ⊢
          have HG17 := hide hg17
          clear hg17
          have x17 : W15.cell? ⟨b, 17, none⟩ = some (.int .i64 z.ops) := kc ((HR11.out.box.cell 17).trans HX17.out) HB15.out HR11.out.box.lt
          have t4 : W15.cell? ⟨g17, 4, none⟩ = some (.int .i64 (toldOf (l.take z.got.length)).steps) := HT15.out.cell 4
          have t5 : W15.cell? ⟨g17, 5, none⟩ = some (.int .i64 (toldOf (l.take z.got.length)).ops) := HT15.out.cell 5
          have tf4 : W15.frozen? ⟨g17, 4, none⟩ = false := HT15.out.frozen 4
          have tf5 : W15.frozen? ⟨g17, 5, none⟩ = false := HT15.out.frozen 5
          have tl := HT15.out.lt
          have HZ15 := hide (HR11.out.res.below HB15.out HR11.out.res.lt)
          have hzl15 := HZ15.out.lt
          have hbl15 : b < W15.heap.size := by omega
          have hgz : w.heap.size ≠ g17 := by omega
          have hgb : b ≠ g17 := by omega
          go_upto_region 17 with fail
          have HT17 := hide (show Row _ g17 45 [.bool (toldOf (l.take z.got.length)).ok, .slice B1 (toldOf (l.take z.got.length)).items.length d1, .slice B2 (toldOf (l.take z.got.length)).dead.length d2, .int .i64 (toldOf (l.take z.got.length)).jobs, .int .i64 (t : Int), .int .i64 z.ops] from (HT15.out.set 4 (.int .i64 (t : Int))).set 5 (.int .i64 z.ops))
          have HZ17 := hide ((HZ15.out.far (p := ⟨g17, 4, none⟩) hgz (.int .i64 (t : Int))).far (p := ⟨g17, 5, none⟩) hgz (.int .i64 z.ops))
          have HB17 := hide ((HB15.out.setCell (p := ⟨g17, 4, none⟩) (Nat.le_of_eq HG17.out) (.int .i64 (t : Int))).setCell (p := ⟨g17, 5, none⟩) (Nat.le_of_eq HG17.out) (.int .i64 z.ops))
          generalize World.setCell _ _ _ = W17 at HT17 HZ17 HB17 ⊢
          clear x17 t4 t5 tf4 tf5 tl hzl15 hbl15
          have tl := HT17.out.lt
          have zl17 := HZ17.out.lt
          have HONE := hide (show ([.bool (toldOf (l.take z.got.length)).ok, .slice B1 (toldOf (l.take z.got.length)).items.length d1, .slice B2 (toldOf (l.take z.got.length)).dead.length d2, .int .i64 (toldOf (l.take z.got.length)).jobs, .int .i64 (t : Int), .int .i64 z.ops] : List Value).toArray.all (·.oneCell') = true from by simp [Value.oneCell'])
          go_wp2_with (first | (refine wpList_load_row rfl 45 _ rfl (g17) rfl 45 ([.bool (toldOf (l.take z.got.length)).ok, .slice B1 (toldOf (l.take z.got.length)).items.length d1, .slice B2 (toldOf (l.take z.got.length)).dead.length d2, .int .i64 (toldOf (l.take z.got.length)).jobs, .int .i64 (t : Int), .int .i64 z.ops] : List Value).toArray (0, 0) _ HT17.out Try.underlying45 rfl (by kernel_rfl) ?_) | (refine wpList_store_row rfl 45 _ _ rfl (w.heap.size) ([.bool (toldOf (l.take z.got.length)).ok, .slice B1 (toldOf (l.take z.got.length)).items.length d1, .slice B2 (toldOf (l.take z.got.length)).dead.length d2, .int .i64 (toldOf (l.take z.got.length)).jobs, .int .i64 (t : Int), .int .i64 z.ops] : List Value).toArray rfl rfl 45 (toldZero).toArray HZ17.out (by kernel_rfl) rfl HONE.out ?_) | fail)
          refine bodyPost_ret (ret_row rfl _ _ w.heap.size 45 [.bool (toldOf (l.take z.got.length)).ok, .slice B1 (toldOf (l.take z.got.length)).items.length d1, .slice B2 (toldOf (l.take z.got.length)).dead.length d2, .int .i64 (toldOf (l.take z.got.length)).jobs, .int .i64 (t : Int), .int .i64 z.ops] (HZ17.out.setRow' [.bool (toldOf (l.take z.got.length)).ok, .slice B1 (toldOf (l.take z.got.length)).items.length d1, .slice B2 (toldOf (l.take z.got.length)).dead.length d2, .int .i64 (toldOf (l.take z.got.length)).jobs, .int .i64 (t : Int), .int .i64 z.ops]) _ rfl Try.underlying45 rfl (by kernel_rfl)) rfl ?_
          unfold PlayRet
          rw [HR.out, playTold_eq HPE.out, HZE.out]
          have hg := setRow_grown (grown_refl W17 (some w.heap.size)) ([.bool (toldOf (l.take z.got.length)).ok, .slice B1 (toldOf (l.take z.got.length)).items.length d1, .slice B2 (toldOf (l.take z.got.length)).dead.length d2, .int .i64 (toldOf (l.take z.got.length)).jobs, .int .i64 (t : Int), .int .i64 z.ops] : List Value).toArray
          have hnz : w.heap.size ∉ fq11 := fun hm => by have := (HN11.out.fr _ hm).1; omega
          have hbw : Below w.heap.size w W17 := HR11.out.fr.trans (HB17.out.mono HR11.out.fr.size)
          have h1 := OwC.mCrewTold (x := { toldOf (l.take z.got.length) with steps := (t : Int), ops := z.ops }) HO1.out HO2.out HWF.out (show (Lit.int .i64 (t : Int)).wf = true from WalkArith.wf_i64 (by omega)) (show (Lit.int .i64 z.ops).wf = true from WalkArith.wf_i64 (by omega))
          rw [← show fq11 = _ from HEF.out] at h1
          have h2 := (h1.below HB17.out HN11.out.lt).grown hg (HN11.out.lt.up HB17.out) hnz
          exact ⟨_, fq11, rfl, h2, ((HN11.out.below HB17.out HN11.out.lt).grown hg (fun g e => by injection e with e; subst e; exact hnz)).mono (by omega), hbw.trans (below_of_grown hg (Nat.le_refl _) hbw.size)⟩
        · have hmp : 0 < z.moves.length := by omega
          have qm : ((z.moves.length : Int) == 0) = false := beqf (by omega)
          have qme : ¬ (z.moves = []) := fun e => hm0 (by rw [e]; rfl)
          obtain ⟨who, k, hpk, hwlt, hway, hgo⟩ := go_move ps t hmp
          have hplt := pickAt_lt ps t hmp
          rw [List.getElem?_eq_getElem hplt] at hpk
          have hel := Option.some.inj hpk
          have HST := hide (show runAt x0 ps cn (t + 1) = z.step who (k : Int) from by rw [runAt_succ, HZE.out]; exact hgo)
          obtain ⟨gm, offm, um, fm, eA, hgm, -, hul, hcm, hom⟩ := HO10.out.elem CrewMove.cells_len hplt
          subst eA
          rw [hel] at hom
          obtain ⟨rfl, wf1, wf2, -⟩ := hom.oCrewMove
          have c0 := hcm 0 _ rfl
          have c1 := hcm 1 _ rfl
          simp only [Nat.add_zero] at c0
          have HPK := hide (l53Pick_any ps A3 ps.length c3 fp3 w10.drew (HP.out.below (below_drewN HR10.out.fr 1) hf3) (hf3.up (below_drewN HR10.out.fr 1)) t z.moves.length hmp (by omega) (by omega) hps)
          have HR10D := hide (fun (W' : World) (hb : Below w10.drew.heap.size w10.drew W') => (show Rz w W' b z us9 fp9 ∧ (∀ o v, w10.cell? ⟨gm, o, none⟩ = some v → W'.cell? ⟨gm, o, none⟩ = some v) from
            have hbb : Below w10.heap.size w10 W' := (below_drewN (Below.refl _ _) 1).trans hb
            ⟨HR10.out.below hbb, fun o v h => kc h hbb (cell_lt h)⟩))
          have HCE2 := hide (show (∀ W : World, (∀ o v, w10.cell? ⟨gm, o, none⟩ = some v → W.cell? ⟨gm, o, none⟩ = some v) → W.cell? ⟨gm, offm + pickAt ps t z.moves.length * 2, none⟩ = some (.int .i64 (who : Int)) ∧ W.cell? ⟨gm, offm + pickAt ps t z.moves.length * 2 + 1, none⟩ = some (.int .i64 (k : Int))) from fun W h => ⟨h _ _ c0, h _ _ c1⟩)
          have hgml : gm < w10.heap.size := HN10.out.lt _ hgm
          have hgmb : b < gm := Nat.lt_of_lt_of_le lw (HN10.out.fr _ hgm).1
          clear hpk hel hcm hom hul hgm c0 c1 hgo
          generalize pickAt ps t z.moves.length = p at *
          have hpI : (p : Int) < (z.moves.length : Int) := by omega
          have hpI0 : (0 : Int) ≤ (p : Int) := by omega
          have hwho : (who : Int) ≤ z.workers + 3 := by omega
          go_upto_region 12 with fail
          refine wp_region_held_drew (S := fun W => (W.cell? ⟨gm, offm + p * 2, none⟩ = some (.int .i64 (who : Int)) ∧ W.cell? ⟨gm, offm + p * 2 + 1, none⟩ = some (.int .i64 (k : Int)))) (by kernel_rfl) (HCE2.out _ (HR10D.out w10.drew (Below.refl _ _)).2) (fun hS0 => ?_)
          refine wpAnyH_take (i := 1) (v := .slice (some ⟨gm, offm, none⟩) z.moves.length c10) rfl (by kernel_rfl) (by kernel_rfl) (by kernel_rfl) (fun _ _ _ h => h) (Or.inl ⟨by kernel_rfl, by (intro W hS; go_simp; first | done | with_reducible rfl | rfl)⟩) hS0 ?_
          (try simp only [Act.put, List.getElem_toArray, List.getElem_cons_zero, List.getElem_cons_succ, List.setIfInBounds_toArray, List.set_cons_zero, List.set_cons_succ])
          refine wpAnyH_take (i := 2) (v := .slice A3 ps.length c3) rfl (by kernel_rfl) (by kernel_rfl) (by kernel_rfl) (fun _ _ _ h => h) (Or.inl ⟨by kernel_rfl, by (intro W hS; go_simp; first | done | with_reducible rfl | rfl)⟩) hS0 ?_
          (try simp only [Act.put, List.getElem_toArray, List.getElem_cons_zero, List.getElem_cons_succ, List.setIfInBounds_toArray, List.set_cons_zero, List.set_cons_succ])
          refine wpAnyH_take (i := 3) (v := .int .i64 (t : Int)) rfl (by kernel_rfl) (by kernel_rfl) (by kernel_rfl) (fun _ _ _ h => h) (Or.inl ⟨by kernel_rfl, by (intro W hS; go_simp; first | done | with_reducible rfl | rfl)⟩) hS0 ?_
          (try simp only [Act.put, List.getElem_toArray, List.getElem_cons_zero, List.getElem_cons_succ, List.setIfInBounds_toArray, List.set_cons_zero, List.set_cons_succ])
          refine wpAnyH_take (i := 4) (v := .slice (some ⟨gm, offm, none⟩) z.moves.length c10) rfl (by kernel_rfl) (by kernel_rfl) (by kernel_rfl) (fun _ _ _ h => h) (Or.inl ⟨by kernel_rfl, by (intro W hS; go_simp; first | done | with_reducible rfl | rfl)⟩) hS0 ?_
          (try simp only [Act.put, List.getElem_toArray, List.getElem_cons_zero, List.getElem_cons_succ, List.setIfInBounds_toArray, List.set_cons_zero, List.set_cons_succ])
          refine wpAnyH_take (i := 5) (v := .int .i64 (z.moves.length : Int)) rfl (by kernel_rfl) (by kernel_rfl) (by kernel_rfl) (fun _ _ _ h => h) (Or.inl ⟨by kernel_rfl, by (intro W hS; go_simp; first | done | with_reducible rfl | rfl)⟩) hS0 ?_
          (try simp only [Act.put, List.getElem_toArray, List.getElem_cons_zero, List.getElem_cons_succ, List.setIfInBounds_toArray, List.set_cons_zero, List.set_cons_succ])
          refine wpAnyH_ready (rs := [0, 6]) (by kernel_rfl) (by simp) ?_
          refine AllReadyH.cons rfl (fun K hK => ?_) (AllReadyH.cons rfl (fun K hK => ?_) AllReadyH.nil)
          · have HR10E := hide (HR10D.out w10.drew (Below.refl _ _)).1
            rw [if_pos (by simp [Region.wanted])]
            refine wp_load_row 30 _ rfl b rfl 30 us9.toArray (0, 0) _ HR10E.out.box Try.underlying30 rfl HIW.out ?_
            refine hK.out _ _ (hS0) (fun _ => ?_)
            clear hK K
            refine wpAnyH_ready (rs := [6]) (by kernel_rfl) (by simp) ?_
            refine AllReadyH.cons rfl (fun K hK => ?_) AllReadyH.nil
            go_simp
            go_at_call 75
            refine HPK.out.mono ?_
            rintro e w11 ⟨rfl, b11⟩
            have HR11 := hide (HR10D.out w11 b11)
            have hS1 := HCE2.out _ HR11.out.2
            clear b11
            try go_simp
            refine hK.out _ _ (hS1) (fun _ => ?_)
            clear hK K
            refine wpAnyH_take (i := 7) (v := .pointer (some ⟨gm, offm + p * 2, none⟩)) rfl (by kernel_rfl) (by kernel_rfl) (by kernel_rfl) (fun _ _ _ h => h) (Or.inl ⟨by kernel_rfl, by (intro W hS; go_simp; first | done | with_reducible rfl | rfl)⟩) hS1 ?_
            (try simp only [Act.put, List.getElem_toArray, List.getElem_cons_zero, List.getElem_cons_succ, List.setIfInBounds_toArray, List.set_cons_zero, List.set_cons_succ])
            refine wpAnyH_take (i := 8) (v := .agg #[.int .i64 (who : Int), .int .i64 (k : Int)]) rfl (by kernel_rfl) (by kernel_rfl) (by kernel_rfl) (fun _ _ _ h => h) (Or.inl ⟨by kernel_rfl, by (intro W hS; obtain ⟨hS_0, hS_1⟩ := hS; go_simp; first | done | with_reducible rfl | rfl)⟩) hS1 ?_
            (try simp only [Act.put, List.getElem_toArray, List.getElem_cons_zero, List.getElem_cons_succ, List.setIfInBounds_toArray, List.set_cons_zero, List.set_cons_succ])
            have HSTP := hide (specCrewStep_any z us9 fp9 w11 HR11.out.1.dat HR11.out.1.lt HZK.out who k hwho hway)
            refine wpAnyH_ready (rs := [9]) (by kernel_rfl) (by simp) ?_
            refine AllReadyH.cons rfl (fun K hK => ?_) AllReadyH.nil
            go_simp
            go_at_call 74
            refine HSTP.out.mono ?_
            rintro e w12 ⟨us12, fp12, rfl, o12, l12, g12, b12⟩
            have HR12 := hide (HR11.out.1.below b12)
            have hS2 := HCE2.out w12 (fun o v h => kc (HR11.out.2 o v h) b12 (cell_lt (HR11.out.2 o v h)))
            have HRF := hide (HR11.out.1.store b12 o12 l12 g12)
            have HI12 := hide (owc_info o12)
            have HU12 := hide (owc_size o12)
            have HN12 := hide (owc_one o12)
            clear o12 l12 g12 b12 HSTP
            try go_simp
            refine hK.out _ _ hS2 (fun _ => ?_)
            clear hK K
            refine wpAnyH_take (i := 10) (v := .tuple #[.agg us12.toArray, .bool true]) rfl (by kernel_rfl) (by kernel_rfl) (by kernel_rfl) (fun _ _ _ h => h) (Or.inl ⟨by kernel_rfl, by (intro W hS; go_simp; first | done | with_reducible rfl | rfl)⟩) hS2 ?_
            (try simp only [Act.put, List.getElem_toArray, List.getElem_cons_zero, List.getElem_cons_succ, List.setIfInBounds_toArray, List.set_cons_zero, List.set_cons_succ])
            refine wpAnyH_take (i := 11) (v := .agg us12.toArray) rfl (by kernel_rfl) (by kernel_rfl) (by kernel_rfl) (fun _ _ _ h => h) (Or.inl ⟨by kernel_rfl, by (intro W hS; go_simp; first | done | with_reducible rfl | rfl)⟩) hS2 ?_
            (try simp only [Act.put, List.getElem_toArray, List.getElem_cons_zero, List.getElem_cons_succ, List.setIfInBounds_toArray, List.set_cons_zero, List.set_cons_succ])
            refine wpAnyH_take (i := 12) (v := .bool true) rfl (by kernel_rfl) (by kernel_rfl) (by kernel_rfl) (fun _ _ _ h => h) (Or.inl ⟨by kernel_rfl, by (intro W hS; go_simp; first | done | with_reducible rfl | rfl)⟩) hS2 ?_
            (try simp only [Act.put, List.getElem_toArray, List.getElem_cons_zero, List.getElem_cons_succ, List.setIfInBounds_toArray, List.set_cons_zero, List.set_cons_succ])
            refine wpAnyH_ready (rs := [13]) (by kernel_rfl) (by simp) ?_
            refine AllReadyH.cons rfl (fun K hK => ?_) AllReadyH.nil
            rw [if_pos (by simp [Region.wanted])]
            refine wp_store_row 30 _ _ rfl b us12.toArray rfl rfl 30 us9.toArray HR12.out.box HI12.out (HUW.out.trans HU12.out.symm) HN12.out ?_
            have hS3 : ((w12.setRow b us12.toArray).cell? ⟨gm, offm + p * 2, none⟩ = some (.int .i64 (who : Int)) ∧ (w12.setRow b us12.toArray).cell? ⟨gm, offm + p * 2 + 1, none⟩ = some (.int .i64 (k : Int))) := by
              have hh := setRow_other w12 b gm us12.toArray (by omega)
              exact ⟨(World.cell?_of_block (a := ⟨gm, offm + p * 2, none⟩) hh).trans hS2.1, (World.cell?_of_block (a := ⟨gm, offm + p * 2 + 1, none⟩) hh).trans hS2.2⟩
            refine hK.out _ _ hS3 (fun _ => ?_)
            clear hK K
            refine wpAnyH_done (by kernel_rfl) ?_ _
            go_wp2_with fail
            go_roundw
            case rel =>
              have hp2 := HPT.out.succ (by rw [HZE.out]; exact hmp)
              refine ⟨t + 1, us12, fp12, by go_num, hp2, ?_, ?_⟩
              · rw [← HX0.out] at hp2
                exact played_le HC0.out hp2
              · rw [HST.out]
                exact HRF.out
            case measure => simp [intOf]; omega
          · skip
            go_simp
            go_at_call 75
            refine HPK.out.mono ?_
            rintro e w11 ⟨rfl, b11⟩
            have HR11 := hide (HR10D.out w11 b11)
            have hS1 := HCE2.out _ HR11.out.2
            clear b11
            try go_simp
            refine hK.out _ _ (hS1) (fun _ => ?_)
            clear hK K
            refine wpAnyH_take (i := 7) (v := .pointer (some ⟨gm, offm + p * 2, none⟩)) rfl (by kernel_rfl) (by kernel_rfl) (by kernel_rfl) (fun _ _ _ h => h) (Or.inl ⟨by kernel_rfl, by (intro W hS; go_simp; first | done | with_reducible rfl | rfl)⟩) hS1 ?_
            (try simp only [Act.put, List.getElem_toArray, List.getElem_cons_zero, List.getElem_cons_succ, List.setIfInBounds_toArray, List.set_cons_zero, List.set_cons_succ])
            refine wpAnyH_take (i := 8) (v := .agg #[.int .i64 (who : Int), .int .i64 (k : Int)]) rfl (by kernel_rfl) (by kernel_rfl) (by kernel_rfl) (fun _ _ _ h => h) (Or.inl ⟨by kernel_rfl, by (intro W hS; obtain ⟨hS_0, hS_1⟩ := hS; go_simp; first | done | with_reducible rfl | rfl)⟩) hS1 ?_
            (try simp only [Act.put, List.getElem_toArray, List.getElem_cons_zero, List.getElem_cons_succ, List.setIfInBounds_toArray, List.set_cons_zero, List.set_cons_succ])
            refine wpAnyH_ready (rs := [0]) (by kernel_rfl) (by simp) ?_
            refine AllReadyH.cons rfl (fun K hK => ?_) AllReadyH.nil
            rw [if_pos (by simp [Region.wanted])]
            refine wp_load_row 30 _ rfl b rfl 30 us9.toArray (0, 0) _ HR11.out.1.box Try.underlying30 rfl HIW.out ?_
            refine hK.out _ _ (hS1) (fun _ => ?_)
            clear hK K
            have HSTP := hide (specCrewStep_any z us9 fp9 w11 HR11.out.1.dat HR11.out.1.lt HZK.out who k hwho hway)
            refine wpAnyH_ready (rs := [9]) (by kernel_rfl) (by simp) ?_
            refine AllReadyH.cons rfl (fun K hK => ?_) AllReadyH.nil
            go_simp
            go_at_call 74
            refine HSTP.out.mono ?_
            rintro e w12 ⟨us12, fp12, rfl, o12, l12, g12, b12⟩
            have HR12 := hide (HR11.out.1.below b12)
            have hS2 := HCE2.out w12 (fun o v h => kc (HR11.out.2 o v h) b12 (cell_lt (HR11.out.2 o v h)))
            have HRF := hide (HR11.out.1.store b12 o12 l12 g12)
            have HI12 := hide (owc_info o12)
            have HU12 := hide (owc_size o12)
            have HN12 := hide (owc_one o12)
            clear o12 l12 g12 b12 HSTP
            try go_simp
            refine hK.out _ _ hS2 (fun _ => ?_)
            clear hK K
            refine wpAnyH_take (i := 10) (v := .tuple #[.agg us12.toArray, .bool true]) rfl (by kernel_rfl) (by kernel_rfl) (by kernel_rfl) (fun _ _ _ h => h) (Or.inl ⟨by kernel_rfl, by (intro W hS; go_simp; first | done | with_reducible rfl | rfl)⟩) hS2 ?_
            (try simp only [Act.put, List.getElem_toArray, List.getElem_cons_zero, List.getElem_cons_succ, List.setIfInBounds_toArray, List.set_cons_zero, List.set_cons_succ])
            refine wpAnyH_take (i := 11) (v := .agg us12.toArray) rfl (by kernel_rfl) (by kernel_rfl) (by kernel_rfl) (fun _ _ _ h => h) (Or.inl ⟨by kernel_rfl, by (intro W hS; go_simp; first | done | with_reducible rfl | rfl)⟩) hS2 ?_
            (try simp only [Act.put, List.getElem_toArray, List.getElem_cons_zero, List.getElem_cons_succ, List.setIfInBounds_toArray, List.set_cons_zero, List.set_cons_succ])
            refine wpAnyH_take (i := 12) (v := .bool true) rfl (by kernel_rfl) (by kernel_rfl) (by kernel_rfl) (fun _ _ _ h => h) (Or.inl ⟨by kernel_rfl, by (intro W hS; go_simp; first | done | with_reducible rfl | rfl)⟩) hS2 ?_
            (try simp only [Act.put, List.getElem_toArray, List.getElem_cons_zero, List.getElem_cons_succ, List.setIfInBounds_toArray, List.set_cons_zero, List.set_cons_succ])
            refine wpAnyH_ready (rs := [13]) (by kernel_rfl) (by simp) ?_
            refine AllReadyH.cons rfl (fun K hK => ?_) AllReadyH.nil
            rw [if_pos (by simp [Region.wanted])]
            refine wp_store_row 30 _ _ rfl b us12.toArray rfl rfl 30 us9.toArray HR12.out.box HI12.out (HUW.out.trans HU12.out.symm) HN12.out ?_
            have hS3 : ((w12.setRow b us12.toArray).cell? ⟨gm, offm + p * 2, none⟩ = some (.int .i64 (who : Int)) ∧ (w12.setRow b us12.toArray).cell? ⟨gm, offm + p * 2 + 1, none⟩ = some (.int .i64 (k : Int))) := by
              have hh := setRow_other w12 b gm us12.toArray (by omega)
              exact ⟨(World.cell?_of_block (a := ⟨gm, offm + p * 2, none⟩) hh).trans hS2.1, (World.cell?_of_block (a := ⟨gm, offm + p * 2 + 1, none⟩) hh).trans hS2.2⟩
            refine hK.out _ _ hS3 (fun _ => ?_)
            clear hK K
            refine wpAnyH_done (by kernel_rfl) ?_ _
            go_wp2_with fail
            go_roundw
            case rel =>
              have hp2 := HPT.out.succ (by rw [HZE.out]; exact hmp)
              refine ⟨t + 1, us12, fp12, by go_num, hp2, ?_, ?_⟩
              · rw [← HX0.out] at hp2
                exact played_le HC0.out hp2
              · rw [HST.out]
                exact HRF.out
            case measure => simp [intOf]; omega
    · have qn : ((t : Int) == cn) = false := beqf hcn
      have HCE := hide (show y.cutAt t cn = y from by unfold CrewWorld.cutAt; rw [if_neg (fun hh => hcn hh.1)])
      go_upto_region 10 with fail
      have hst := HRA.out
      rw [← show y.cutAt t cn = y from HCE.out, ← HRI.out] at hst
      obtain ⟨W, us9, fp9, hW, hr9⟩ : ∃ W us9 fp9, W = wr ∧ Rz w W b (runIn x0 ps cn t) us9 fp9 := ⟨wr, us, fp', rfl, hst⟩
      subst hW
      have HRW := hide hr9
      clear hst hr9
      have hri := runIn_ok HSO.out HPT.out
      have hgot : (runIn x0 ps cn t).got.length ≤ l.length := by
        have h := HPT.out
        rw [← HX0.out] at h ⊢
        exact got_take HC0.out h
      obtain ⟨z, hz⟩ : ∃ z, z = runIn x0 ps cn t := ⟨_, rfl⟩
      have HZE := hide hz.symm
      rw [← hz] at HRW hri hgot
      clear hz
      have HZK := hide hri
      obtain ⟨z1, z2, z3, z4, z5, z6, z7⟩ := ok_lens hri
      obtain ⟨y1, y2, y3, y4, y5, y6, y7⟩ := ok_nums hri
      have HM := hide (show z.movesOf = z.moves from by unfold CrewWorld.movesOf; rw [if_pos (tb_true hri)])
      have hml : z.moves.length ≤ 3 * (z.workers.toNat + 4) := movesTo_len z _
      have hml2 : z.moves.length ≤ 36 := by omega
      have HIW := hide (owc_info HRW.out.dat)
      have HUW := hide (owc_size HRW.out.dat)
      have HCM := hide (specCrewMoves_any z us9 fp9 W HRW.out.dat HRW.out.lt (by omega))
      rw [HM.out] at HCM
      have HWB := hide (fun (W' : World) (hb : Below W.heap.size W W') => HRW.out.below hb)
      have lw := HRW.out.box.lt
      have lzw := HRW.out.res.lt
      clear hri hml HM
      go_upto_region 11 with (first | (refine wpList_load_row rfl 30 _ rfl (b) rfl 30 (us9).toArray (0, 0) _ HRW.out.box Try.underlying30 rfl HIW.out ?_) | (go_at_call 37; refine HCM.out.mono ?_; rintro e w10 ⟨v10, fq10, rfl, o10, n10, b10⟩; obtain ⟨A10, c10, e10, -, -⟩ := o10.slice; subst e10; have HO10 := hide o10; have HN10 := hide n10; have HR10 := hide (HWB.out w10 b10); have lt10 := HR10.out.box.lt; have lz10 := HR10.out.res.lt; clear o10 n10 b10) | fail)
      by_cases hm0 : z.moves.length = 0
      · have qm : ((z.moves.length : Int) == 0) = true := beqt (by omega)
        have qm2 : z.moves = [] := List.eq_nil_of_length_eq_zero hm0
        have HPE := hide (show PlayEnd x0 ps cn t from ⟨HPT.out, by rw [HZE.out]; exact hm0⟩)
        obtain ⟨A6, c6, u14, u17⟩ : ∃ (A6 : Option Addr) (c6 : Nat), us9[14]? = some (.slice A6 z.got.length c6) ∧ us9[17]? = some (.int .i64 z.ops) := by
          obtain ⟨A1, c1, A2, c2, A3, c3, A4, c4, A5, c5, A6, c6, A7, c7, f1, f2, f3, f4, f5, f6, f7, eus, wjobs, wworkers, wwindow, wnext, wreader, o1, o2, wcloser, o3, wkeeper, o4, wdue, o5, wuser, o6, wroom, o7, wops, rfl⟩ := HRW.out.dat.oCrewWorld
          rw [eus]
          exact ⟨A6, c6, rfl, rfl⟩
        have x14 : w10.cell? ⟨b, 14, none⟩ = some (.slice A6 z.got.length c6) := (HR10.out.box.cell 14).trans u14
        have HX17 := hide u17
        obtain ⟨fqt, hot, hsub⟩ := Ow.takeN CrewJob.cells_len (HO.out.below HR10.out.fr hf) z.got.length hgot
        have htl : (l.take z.got.length).length = z.got.length := by rw [List.length_take]; omega
        have HTD := hide (show Calls Try.prog 76 #[.slice A l.length c, .int .i64 (z.got.length : Int)] w10 (ToldRet (l.take z.got.length) w10) from by
          have h := l53ToldTo_any (l.take z.got.length) A l.length c fqt w10 hot (by rw [htl]; exact hgot) ((hf.up HR10.out.fr).sub hsub) (jobsOk_take HJ0.out _)
          rw [htl] at h
          exact h)
        clear u14 u17 hot hsub htl qm2
        go_upto_region 15 with (first | (go_at_call 76; refine HTD.out.mono ?_; rintro e w11 ⟨us11, fq11, rfl, o11, n11, b11⟩; obtain ⟨B1, d1, B2, d2, f1, f2, e11, o1, o2, x3, x4, x5, efp⟩ := o11.oCrewTold; subst e11; have HN11 := hide n11; have HO1 := hide o1; have HO2 := hide o2; have HEF := hide efp; have HWF := hide x3; have HR11 := hide (HR10.out.below b11); have HNT := hide (Row.new w11 45 toldZero); clear o11 n11 b11 o1 o2 efp) | (refine wpList_store_row rfl 45 _ _ rfl (w11.heap.size) ([.bool (toldOf (l.take z.got.length)).ok, .slice B1 (toldOf (l.take z.got.length)).items.length d1, .slice B2 (toldOf (l.take z.got.length)).dead.length d2, .int .i64 (toldOf (l.take z.got.length)).jobs, .int .i64 (toldOf (l.take z.got.length)).steps, .int .i64 (toldOf (l.take z.got.length)).ops] : List Value).toArray rfl rfl 45 (toldZero).toArray HNT.out (by kernel_rfl) rfl (by simp [Value.oneCell']) ?_) | fail)
        have HT15 := hide (show Row ((w11.alloc (.cells #[.bool false, .slice none 0 0, .slice none 0 0, .int .i64 0, .int .i64 0, .int .i64 0] 45)).setRow w11.heap.size ([.bool (toldOf (l.take z.got.length)).ok, .slice B1 (toldOf (l.take z.got.length)).items.length d1, .slice B2 (toldOf (l.take z.got.length)).dead.length d2, .int .i64 (toldOf (l.take z.got.length)).jobs, .int .i64 (toldOf (l.take z.got.length)).steps, .int .i64 (toldOf (l.take z.got.length)).ops] : List Value).toArray) w11.heap.size 45 [.bool (toldOf (l.take z.got.length)).ok, .slice B1 (toldOf (l.take z.got.length)).items.length d1, .slice B2 (toldOf (l.take z.got.length)).dead.length d2, .int .i64 (toldOf (l.take z.got.length)).jobs, .int .i64 (toldOf (l.take z.got.length)).steps, .int .i64 (toldOf (l.take z.got.length)).ops] from HNT.out.setRow' _)
        have HB15 := hide (show Below w11.heap.size w11 ((w11.alloc (.cells #[.bool false, .slice none 0 0, .slice none 0 0, .int .i64 0, .int .i64 0, .int .i64 0] 45)).setRow w11.heap.size ([.bool (toldOf (l.take z.got.length)).ok, .slice B1 (toldOf (l.take z.got.length)).items.length d1, .slice B2 (toldOf (l.take z.got.length)).dead.length d2, .int .i64 (toldOf (l.take z.got.length)).jobs, .int .i64 (toldOf (l.take z.got.length)).steps, .int .i64 (toldOf (l.take z.got.length)).ops] : List Value).toArray) from ((Below.refl _ _).alloc (Nat.le_refl _) _).trans (below_of_grown (setRow_grown (grown_refl _ (some w11.heap.size)) _) (Nat.le_refl _) (by rw [World.size_alloc]; omega)))
        have hbl := HR11.out.box.lt
        have hzl := HR11.out.res.lt
        generalize World.setRow _ _ _ = W15 at HT15 HB15 ⊢
        generalize hg17 : w11.heap.size = g17 at HT15 hbl hzl ⊢
        have HG17 := hide hg17
        clear hg17
        have x17 : W15.cell? ⟨b, 17, none⟩ = some (.int .i64 z.ops) := kc ((HR11.out.box.cell 17).trans HX17.out) HB15.out HR11.out.box.lt
        have t4 : W15.cell? ⟨g17, 4, none⟩ = some (.int .i64 (toldOf (l.take z.got.length)).steps) := HT15.out.cell 4
        have t5 : W15.cell? ⟨g17, 5, none⟩ = some (.int .i64 (toldOf (l.take z.got.length)).ops) := HT15.out.cell 5
        have tf4 : W15.frozen? ⟨g17, 4, none⟩ = false := HT15.out.frozen 4
        have tf5 : W15.frozen? ⟨g17, 5, none⟩ = false := HT15.out.frozen 5
        have tl := HT15.out.lt
        have HZ15 := hide (HR11.out.res.below HB15.out HR11.out.res.lt)
        have hzl15 := HZ15.out.lt
        have hbl15 : b < W15.heap.size := by omega
        have hgz : w.heap.size ≠ g17 := by omega
        have hgb : b ≠ g17 := by omega
        go_upto_region 17 with fail
        have HT17 := hide (show Row _ g17 45 [.bool (toldOf (l.take z.got.length)).ok, .slice B1 (toldOf (l.take z.got.length)).items.length d1, .slice B2 (toldOf (l.take z.got.length)).dead.length d2, .int .i64 (toldOf (l.take z.got.length)).jobs, .int .i64 (t : Int), .int .i64 z.ops] from (HT15.out.set 4 (.int .i64 (t : Int))).set 5 (.int .i64 z.ops))
        have HZ17 := hide ((HZ15.out.far (p := ⟨g17, 4, none⟩) hgz (.int .i64 (t : Int))).far (p := ⟨g17, 5, none⟩) hgz (.int .i64 z.ops))
        have HB17 := hide ((HB15.out.setCell (p := ⟨g17, 4, none⟩) (Nat.le_of_eq HG17.out) (.int .i64 (t : Int))).setCell (p := ⟨g17, 5, none⟩) (Nat.le_of_eq HG17.out) (.int .i64 z.ops))
        generalize World.setCell _ _ _ = W17 at HT17 HZ17 HB17 ⊢
        clear x17 t4 t5 tf4 tf5 tl hzl15 hbl15
        have tl := HT17.out.lt
        have zl17 := HZ17.out.lt
        have HONE := hide (show ([.bool (toldOf (l.take z.got.length)).ok, .slice B1 (toldOf (l.take z.got.length)).items.length d1, .slice B2 (toldOf (l.take z.got.length)).dead.length d2, .int .i64 (toldOf (l.take z.got.length)).jobs, .int .i64 (t : Int), .int .i64 z.ops] : List Value).toArray.all (·.oneCell') = true from by simp [Value.oneCell'])
        go_wp2_with (first | (refine wpList_load_row rfl 45 _ rfl (g17) rfl 45 ([.bool (toldOf (l.take z.got.length)).ok, .slice B1 (toldOf (l.take z.got.length)).items.length d1, .slice B2 (toldOf (l.take z.got.length)).dead.length d2, .int .i64 (toldOf (l.take z.got.length)).jobs, .int .i64 (t : Int), .int .i64 z.ops] : List Value).toArray (0, 0) _ HT17.out Try.underlying45 rfl (by kernel_rfl) ?_) | (refine wpList_store_row rfl 45 _ _ rfl (w.heap.size) ([.bool (toldOf (l.take z.got.length)).ok, .slice B1 (toldOf (l.take z.got.length)).items.length d1, .slice B2 (toldOf (l.take z.got.length)).dead.length d2, .int .i64 (toldOf (l.take z.got.length)).jobs, .int .i64 (t : Int), .int .i64 z.ops] : List Value).toArray rfl rfl 45 (toldZero).toArray HZ17.out (by kernel_rfl) rfl HONE.out ?_) | fail)
        refine bodyPost_ret (ret_row rfl _ _ w.heap.size 45 [.bool (toldOf (l.take z.got.length)).ok, .slice B1 (toldOf (l.take z.got.length)).items.length d1, .slice B2 (toldOf (l.take z.got.length)).dead.length d2, .int .i64 (toldOf (l.take z.got.length)).jobs, .int .i64 (t : Int), .int .i64 z.ops] (HZ17.out.setRow' [.bool (toldOf (l.take z.got.length)).ok, .slice B1 (toldOf (l.take z.got.length)).items.length d1, .slice B2 (toldOf (l.take z.got.length)).dead.length d2, .int .i64 (toldOf (l.take z.got.length)).jobs, .int .i64 (t : Int), .int .i64 z.ops]) _ rfl Try.underlying45 rfl (by kernel_rfl)) rfl ?_
        unfold PlayRet
        rw [HR.out, playTold_eq HPE.out, HZE.out]
        have hg := setRow_grown (grown_refl W17 (some w.heap.size)) ([.bool (toldOf (l.take z.got.length)).ok, .slice B1 (toldOf (l.take z.got.length)).items.length d1, .slice B2 (toldOf (l.take z.got.length)).dead.length d2, .int .i64 (toldOf (l.take z.got.length)).jobs, .int .i64 (t : Int), .int .i64 z.ops] : List Value).toArray
        have hnz : w.heap.size ∉ fq11 := fun hm => by have := (HN11.out.fr _ hm).1; omega
        have hbw : Below w.heap.size w W17 := HR11.out.fr.trans (HB17.out.mono HR11.out.fr.size)
        have h1 := OwC.mCrewTold (x := { toldOf (l.take z.got.length) with steps := (t : Int), ops := z.ops }) HO1.out HO2.out HWF.out (show (Lit.int .i64 (t : Int)).wf = true from WalkArith.wf_i64 (by omega)) (show (Lit.int .i64 z.ops).wf = true from WalkArith.wf_i64 (by omega))
        rw [← show fq11 = _ from HEF.out] at h1
        have h2 := (h1.below HB17.out HN11.out.lt).grown hg (HN11.out.lt.up HB17.out) hnz
        exact ⟨_, fq11, rfl, h2, ((HN11.out.below HB17.out HN11.out.lt).grown hg (fun g e => by injection e with e; subst e; exact hnz)).mono (by omega), hbw.trans (below_of_grown hg (Nat.le_refl _) hbw.size)⟩
      · have hmp : 0 < z.moves.length := by omega
        have qm : ((z.moves.length : Int) == 0) = false := beqf (by omega)
        have qme : ¬ (z.moves = []) := fun e => hm0 (by rw [e]; rfl)
        obtain ⟨who, k, hpk, hwlt, hway, hgo⟩ := go_move ps t hmp
        have hplt := pickAt_lt ps t hmp
        rw [List.getElem?_eq_getElem hplt] at hpk
        have hel := Option.some.inj hpk
        have HST := hide (show runAt x0 ps cn (t + 1) = z.step who (k : Int) from by rw [runAt_succ, HZE.out]; exact hgo)
        obtain ⟨gm, offm, um, fm, eA, hgm, -, hul, hcm, hom⟩ := HO10.out.elem CrewMove.cells_len hplt
        subst eA
        rw [hel] at hom
        obtain ⟨rfl, wf1, wf2, -⟩ := hom.oCrewMove
        have c0 := hcm 0 _ rfl
        have c1 := hcm 1 _ rfl
        simp only [Nat.add_zero] at c0
        have HPK := hide (l53Pick_any ps A3 ps.length c3 fp3 w10.drew (HP.out.below (below_drewN HR10.out.fr 1) hf3) (hf3.up (below_drewN HR10.out.fr 1)) t z.moves.length hmp (by omega) (by omega) hps)
        have HR10D := hide (fun (W' : World) (hb : Below w10.drew.heap.size w10.drew W') => (show Rz w W' b z us9 fp9 ∧ (∀ o v, w10.cell? ⟨gm, o, none⟩ = some v → W'.cell? ⟨gm, o, none⟩ = some v) from
          have hbb : Below w10.heap.size w10 W' := (below_drewN (Below.refl _ _) 1).trans hb
          ⟨HR10.out.below hbb, fun o v h => kc h hbb (cell_lt h)⟩))
        have HCE2 := hide (show (∀ W : World, (∀ o v, w10.cell? ⟨gm, o, none⟩ = some v → W.cell? ⟨gm, o, none⟩ = some v) → W.cell? ⟨gm, offm + pickAt ps t z.moves.length * 2, none⟩ = some (.int .i64 (who : Int)) ∧ W.cell? ⟨gm, offm + pickAt ps t z.moves.length * 2 + 1, none⟩ = some (.int .i64 (k : Int))) from fun W h => ⟨h _ _ c0, h _ _ c1⟩)
        have hgml : gm < w10.heap.size := HN10.out.lt _ hgm
        have hgmb : b < gm := Nat.lt_of_lt_of_le lw (HN10.out.fr _ hgm).1
        clear hpk hel hcm hom hul hgm c0 c1 hgo
        generalize pickAt ps t z.moves.length = p at *
        have hpI : (p : Int) < (z.moves.length : Int) := by omega
        have hpI0 : (0 : Int) ≤ (p : Int) := by omega
        have hwho : (who : Int) ≤ z.workers + 3 := by omega
        go_upto_region 12 with fail
        refine wp_region_held_drew (S := fun W => (W.cell? ⟨gm, offm + p * 2, none⟩ = some (.int .i64 (who : Int)) ∧ W.cell? ⟨gm, offm + p * 2 + 1, none⟩ = some (.int .i64 (k : Int)))) (by kernel_rfl) (HCE2.out _ (HR10D.out w10.drew (Below.refl _ _)).2) (fun hS0 => ?_)
        refine wpAnyH_take (i := 1) (v := .slice (some ⟨gm, offm, none⟩) z.moves.length c10) rfl (by kernel_rfl) (by kernel_rfl) (by kernel_rfl) (fun _ _ _ h => h) (Or.inl ⟨by kernel_rfl, by (intro W hS; go_simp; first | done | with_reducible rfl | rfl)⟩) hS0 ?_
        (try simp only [Act.put, List.getElem_toArray, List.getElem_cons_zero, List.getElem_cons_succ, List.setIfInBounds_toArray, List.set_cons_zero, List.set_cons_succ])
        refine wpAnyH_take (i := 2) (v := .slice A3 ps.length c3) rfl (by kernel_rfl) (by kernel_rfl) (by kernel_rfl) (fun _ _ _ h => h) (Or.inl ⟨by kernel_rfl, by (intro W hS; go_simp; first | done | with_reducible rfl | rfl)⟩) hS0 ?_
        (try simp only [Act.put, List.getElem_toArray, List.getElem_cons_zero, List.getElem_cons_succ, List.setIfInBounds_toArray, List.set_cons_zero, List.set_cons_succ])
        refine wpAnyH_take (i := 3) (v := .int .i64 (t : Int)) rfl (by kernel_rfl) (by kernel_rfl) (by kernel_rfl) (fun _ _ _ h => h) (Or.inl ⟨by kernel_rfl, by (intro W hS; go_simp; first | done | with_reducible rfl | rfl)⟩) hS0 ?_
        (try simp only [Act.put, List.getElem_toArray, List.getElem_cons_zero, List.getElem_cons_succ, List.setIfInBounds_toArray, List.set_cons_zero, List.set_cons_succ])
        refine wpAnyH_take (i := 4) (v := .slice (some ⟨gm, offm, none⟩) z.moves.length c10) rfl (by kernel_rfl) (by kernel_rfl) (by kernel_rfl) (fun _ _ _ h => h) (Or.inl ⟨by kernel_rfl, by (intro W hS; go_simp; first | done | with_reducible rfl | rfl)⟩) hS0 ?_
        (try simp only [Act.put, List.getElem_toArray, List.getElem_cons_zero, List.getElem_cons_succ, List.setIfInBounds_toArray, List.set_cons_zero, List.set_cons_succ])
        refine wpAnyH_take (i := 5) (v := .int .i64 (z.moves.length : Int)) rfl (by kernel_rfl) (by kernel_rfl) (by kernel_rfl) (fun _ _ _ h => h) (Or.inl ⟨by kernel_rfl, by (intro W hS; go_simp; first | done | with_reducible rfl | rfl)⟩) hS0 ?_
        (try simp only [Act.put, List.getElem_toArray, List.getElem_cons_zero, List.getElem_cons_succ, List.setIfInBounds_toArray, List.set_cons_zero, List.set_cons_succ])
        refine wpAnyH_ready (rs := [0, 6]) (by kernel_rfl) (by simp) ?_
        refine AllReadyH.cons rfl (fun K hK => ?_) (AllReadyH.cons rfl (fun K hK => ?_) AllReadyH.nil)
        · have HR10E := hide (HR10D.out w10.drew (Below.refl _ _)).1
          rw [if_pos (by simp [Region.wanted])]
          refine wp_load_row 30 _ rfl b rfl 30 us9.toArray (0, 0) _ HR10E.out.box Try.underlying30 rfl HIW.out ?_
          refine hK.out _ _ (hS0) (fun _ => ?_)
          clear hK K
          refine wpAnyH_ready (rs := [6]) (by kernel_rfl) (by simp) ?_
          refine AllReadyH.cons rfl (fun K hK => ?_) AllReadyH.nil
          go_simp
          go_at_call 75
          refine HPK.out.mono ?_
          rintro e w11 ⟨rfl, b11⟩
          have HR11 := hide (HR10D.out w11 b11)
          have hS1 := HCE2.out _ HR11.out.2
          clear b11
          try go_simp
          refine hK.out _ _ (hS1) (fun _ => ?_)
          clear hK K
          refine wpAnyH_take (i := 7) (v := .pointer (some ⟨gm, offm + p * 2, none⟩)) rfl (by kernel_rfl) (by kernel_rfl) (by kernel_rfl) (fun _ _ _ h => h) (Or.inl ⟨by kernel_rfl, by (intro W hS; go_simp; first | done | with_reducible rfl | rfl)⟩) hS1 ?_
          (try simp only [Act.put, List.getElem_toArray, List.getElem_cons_zero, List.getElem_cons_succ, List.setIfInBounds_toArray, List.set_cons_zero, List.set_cons_succ])
          refine wpAnyH_take (i := 8) (v := .agg #[.int .i64 (who : Int), .int .i64 (k : Int)]) rfl (by kernel_rfl) (by kernel_rfl) (by kernel_rfl) (fun _ _ _ h => h) (Or.inl ⟨by kernel_rfl, by (intro W hS; obtain ⟨hS_0, hS_1⟩ := hS; go_simp; first | done | with_reducible rfl | rfl)⟩) hS1 ?_
          (try simp only [Act.put, List.getElem_toArray, List.getElem_cons_zero, List.getElem_cons_succ, List.setIfInBounds_toArray, List.set_cons_zero, List.set_cons_succ])
          have HSTP := hide (specCrewStep_any z us9 fp9 w11 HR11.out.1.dat HR11.out.1.lt HZK.out who k hwho hway)
          refine wpAnyH_ready (rs := [9]) (by kernel_rfl) (by simp) ?_
          refine AllReadyH.cons rfl (fun K hK => ?_) AllReadyH.nil
          go_simp
          go_at_call 74
          refine HSTP.out.mono ?_
          rintro e w12 ⟨us12, fp12, rfl, o12, l12, g12, b12⟩
          have HR12 := hide (HR11.out.1.below b12)
          have hS2 := HCE2.out w12 (fun o v h => kc (HR11.out.2 o v h) b12 (cell_lt (HR11.out.2 o v h)))
          have HRF := hide (HR11.out.1.store b12 o12 l12 g12)
          have HI12 := hide (owc_info o12)
          have HU12 := hide (owc_size o12)
          have HN12 := hide (owc_one o12)
          clear o12 l12 g12 b12 HSTP
          try go_simp
          refine hK.out _ _ hS2 (fun _ => ?_)
          clear hK K
          refine wpAnyH_take (i := 10) (v := .tuple #[.agg us12.toArray, .bool true]) rfl (by kernel_rfl) (by kernel_rfl) (by kernel_rfl) (fun _ _ _ h => h) (Or.inl ⟨by kernel_rfl, by (intro W hS; go_simp; first | done | with_reducible rfl | rfl)⟩) hS2 ?_
          (try simp only [Act.put, List.getElem_toArray, List.getElem_cons_zero, List.getElem_cons_succ, List.setIfInBounds_toArray, List.set_cons_zero, List.set_cons_succ])
          refine wpAnyH_take (i := 11) (v := .agg us12.toArray) rfl (by kernel_rfl) (by kernel_rfl) (by kernel_rfl) (fun _ _ _ h => h) (Or.inl ⟨by kernel_rfl, by (intro W hS; go_simp; first | done | with_reducible rfl | rfl)⟩) hS2 ?_
          (try simp only [Act.put, List.getElem_toArray, List.getElem_cons_zero, List.getElem_cons_succ, List.setIfInBounds_toArray, List.set_cons_zero, List.set_cons_succ])
          refine wpAnyH_take (i := 12) (v := .bool true) rfl (by kernel_rfl) (by kernel_rfl) (by kernel_rfl) (fun _ _ _ h => h) (Or.inl ⟨by kernel_rfl, by (intro W hS; go_simp; first | done | with_reducible rfl | rfl)⟩) hS2 ?_
          (try simp only [Act.put, List.getElem_toArray, List.getElem_cons_zero, List.getElem_cons_succ, List.setIfInBounds_toArray, List.set_cons_zero, List.set_cons_succ])
          refine wpAnyH_ready (rs := [13]) (by kernel_rfl) (by simp) ?_
          refine AllReadyH.cons rfl (fun K hK => ?_) AllReadyH.nil
          rw [if_pos (by simp [Region.wanted])]
          refine wp_store_row 30 _ _ rfl b us12.toArray rfl rfl 30 us9.toArray HR12.out.box HI12.out (HUW.out.trans HU12.out.symm) HN12.out ?_
          have hS3 : ((w12.setRow b us12.toArray).cell? ⟨gm, offm + p * 2, none⟩ = some (.int .i64 (who : Int)) ∧ (w12.setRow b us12.toArray).cell? ⟨gm, offm + p * 2 + 1, none⟩ = some (.int .i64 (k : Int))) := by
            have hh := setRow_other w12 b gm us12.toArray (by omega)
            exact ⟨(World.cell?_of_block (a := ⟨gm, offm + p * 2, none⟩) hh).trans hS2.1, (World.cell?_of_block (a := ⟨gm, offm + p * 2 + 1, none⟩) hh).trans hS2.2⟩
          refine hK.out _ _ hS3 (fun _ => ?_)
          clear hK K
          refine wpAnyH_done (by kernel_rfl) ?_ _
          go_wp2_with fail
          go_roundw
          case rel =>
            have hp2 := HPT.out.succ (by rw [HZE.out]; exact hmp)
            refine ⟨t + 1, us12, fp12, by go_num, hp2, ?_, ?_⟩
            · rw [← HX0.out] at hp2
              exact played_le HC0.out hp2
            · rw [HST.out]
              exact HRF.out
          case measure => simp [intOf]; omega
        · skip
          go_simp
          go_at_call 75
          refine HPK.out.mono ?_
          rintro e w11 ⟨rfl, b11⟩
          have HR11 := hide (HR10D.out w11 b11)
          have hS1 := HCE2.out _ HR11.out.2
          clear b11
          try go_simp
          refine hK.out _ _ (hS1) (fun _ => ?_)
          clear hK K
          refine wpAnyH_take (i := 7) (v := .pointer (some ⟨gm, offm + p * 2, none⟩)) rfl (by kernel_rfl) (by kernel_rfl) (by kernel_rfl) (fun _ _ _ h => h) (Or.inl ⟨by kernel_rfl, by (intro W hS; go_simp; first | done | with_reducible rfl | rfl)⟩) hS1 ?_
          (try simp only [Act.put, List.getElem_toArray, List.getElem_cons_zero, List.getElem_cons_succ, List.setIfInBounds_toArray, List.set_cons_zero, List.set_cons_succ])
          refine wpAnyH_take (i := 8) (v := .agg #[.int .i64 (who : Int), .int .i64 (k : Int)]) rfl (by kernel_rfl) (by kernel_rfl) (by kernel_rfl) (fun _ _ _ h => h) (Or.inl ⟨by kernel_rfl, by (intro W hS; obtain ⟨hS_0, hS_1⟩ := hS; go_simp; first | done | with_reducible rfl | rfl)⟩) hS1 ?_
          (try simp only [Act.put, List.getElem_toArray, List.getElem_cons_zero, List.getElem_cons_succ, List.setIfInBounds_toArray, List.set_cons_zero, List.set_cons_succ])
          refine wpAnyH_ready (rs := [0]) (by kernel_rfl) (by simp) ?_
          refine AllReadyH.cons rfl (fun K hK => ?_) AllReadyH.nil
          rw [if_pos (by simp [Region.wanted])]
          refine wp_load_row 30 _ rfl b rfl 30 us9.toArray (0, 0) _ HR11.out.1.box Try.underlying30 rfl HIW.out ?_
          refine hK.out _ _ (hS1) (fun _ => ?_)
          clear hK K
          have HSTP := hide (specCrewStep_any z us9 fp9 w11 HR11.out.1.dat HR11.out.1.lt HZK.out who k hwho hway)
          refine wpAnyH_ready (rs := [9]) (by kernel_rfl) (by simp) ?_
          refine AllReadyH.cons rfl (fun K hK => ?_) AllReadyH.nil
          go_simp
          go_at_call 74
          refine HSTP.out.mono ?_
          rintro e w12 ⟨us12, fp12, rfl, o12, l12, g12, b12⟩
          have HR12 := hide (HR11.out.1.below b12)
          have hS2 := HCE2.out w12 (fun o v h => kc (HR11.out.2 o v h) b12 (cell_lt (HR11.out.2 o v h)))
          have HRF := hide (HR11.out.1.store b12 o12 l12 g12)
          have HI12 := hide (owc_info o12)
          have HU12 := hide (owc_size o12)
          have HN12 := hide (owc_one o12)
          clear o12 l12 g12 b12 HSTP
          try go_simp
          refine hK.out _ _ hS2 (fun _ => ?_)
          clear hK K
          refine wpAnyH_take (i := 10) (v := .tuple #[.agg us12.toArray, .bool true]) rfl (by kernel_rfl) (by kernel_rfl) (by kernel_rfl) (fun _ _ _ h => h) (Or.inl ⟨by kernel_rfl, by (intro W hS; go_simp; first | done | with_reducible rfl | rfl)⟩) hS2 ?_
          (try simp only [Act.put, List.getElem_toArray, List.getElem_cons_zero, List.getElem_cons_succ, List.setIfInBounds_toArray, List.set_cons_zero, List.set_cons_succ])
          refine wpAnyH_take (i := 11) (v := .agg us12.toArray) rfl (by kernel_rfl) (by kernel_rfl) (by kernel_rfl) (fun _ _ _ h => h) (Or.inl ⟨by kernel_rfl, by (intro W hS; go_simp; first | done | with_reducible rfl | rfl)⟩) hS2 ?_
          (try simp only [Act.put, List.getElem_toArray, List.getElem_cons_zero, List.getElem_cons_succ, List.setIfInBounds_toArray, List.set_cons_zero, List.set_cons_succ])
          refine wpAnyH_take (i := 12) (v := .bool true) rfl (by kernel_rfl) (by kernel_rfl) (by kernel_rfl) (fun _ _ _ h => h) (Or.inl ⟨by kernel_rfl, by (intro W hS; go_simp; first | done | with_reducible rfl | rfl)⟩) hS2 ?_
          (try simp only [Act.put, List.getElem_toArray, List.getElem_cons_zero, List.getElem_cons_succ, List.setIfInBounds_toArray, List.set_cons_zero, List.set_cons_succ])
          refine wpAnyH_ready (rs := [13]) (by kernel_rfl) (by simp) ?_
          refine AllReadyH.cons rfl (fun K hK => ?_) AllReadyH.nil
          rw [if_pos (by simp [Region.wanted])]
          refine wp_store_row 30 _ _ rfl b us12.toArray rfl rfl 30 us9.toArray HR12.out.box HI12.out (HUW.out.trans HU12.out.symm) HN12.out ?_
          have hS3 : ((w12.setRow b us12.toArray).cell? ⟨gm, offm + p * 2, none⟩ = some (.int .i64 (who : Int)) ∧ (w12.setRow b us12.toArray).cell? ⟨gm, offm + p * 2 + 1, none⟩ = some (.int .i64 (k : Int))) := by
            have hh := setRow_other w12 b gm us12.toArray (by omega)
            exact ⟨(World.cell?_of_block (a := ⟨gm, offm + p * 2, none⟩) hh).trans hS2.1, (World.cell?_of_block (a := ⟨gm, offm + p * 2 + 1, none⟩) hh).trans hS2.2⟩
          refine hK.out _ _ hS3 (fun _ => ?_)
          clear hK K
          refine wpAnyH_done (by kernel_rfl) ?_ _
          go_wp2_with fail
          go_roundw
          case rel =>
            have hp2 := HPT.out.succ (by rw [HZE.out]; exact hmp)
            refine ⟨t + 1, us12, fp12, by go_num, hp2, ?_, ?_⟩
            · rw [← HX0.out] at hp2
              exact played_le HC0.out hp2
            · rw [HST.out]
              exact HRF.out
          case measure => simp [intOf]; omega
end Go.Proofs.Ytpkjjfnfolbcoaa
