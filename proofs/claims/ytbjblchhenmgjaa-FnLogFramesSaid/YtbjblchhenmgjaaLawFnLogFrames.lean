/-
  FnLogFrames returns true for every input: records are read back, and none that is torn. No condition.
-/
import Derived.Test.YtbjblchhenmgjaaFrLo
import Derived.Test.YtbjblchhenmgjaaFramesI
import Derived.Test.YtbjblchhenmgjaaApp
set_option linter.unusedVariables false
set_option linter.unusedSimpArgs false
namespace Go.Proofs.Ytbjblchhenmgjaa
open Go.ChangeShapes Go.WideShapes Go.ChangeAt Go.RowKit

/-- the beginning of a slice -/
theorem Ow.takeN {α : Type} {w : World} {f : α → List D} {k : Nat} (hk : ∀ x, (f x).length = k) {l : List α} {A : Option Addr} {m c : Nat} {fp : List Nat} (h : Ow w (.s k l.length (l.flatMap f)) (.slice A m c) fp) {n : Nat} (hn : n ≤ l.length) :
    ∃ fp', fp' ⊆ fp ∧ Ow w (.s k (l.take n).length ((l.take n).flatMap f)) (.slice A n c) fp' := by
  unfold Ow at h
  obtain ⟨hlen, A', c', e, hnc, hcm, h3⟩ := h
  injection e with e1 e2 e3
  subst e1 e2 e3
  have hln : (l.take n).length = n := by rw [List.length_take]; omega
  by_cases h0 : n = 0
  · subst h0
    refine ⟨[], fun _ h => (by cases h), ?_⟩
    unfold Ow
    exact ⟨by simp, A, c, by simp, by simp, hcm, .inl ⟨by simp, rfl⟩⟩
  · rcases h3 with ⟨h3, _⟩ | ⟨_, g, off, ff, rfl, ho, rfl⟩
    · omega
    · have e : l.flatMap f = (l.take n).flatMap f ++ (l.drop n).flatMap f := by rw [← List.flatMap_append, List.take_append_drop]
      rw [e] at ho
      obtain ⟨f1, f2, h1, -, rfl⟩ := (OwL.append _ _ _ _ _).1 ho
      refine ⟨g :: f1, fun b hb => ?_, ?_⟩
      · rcases List.mem_cons.1 hb with rfl | hb
        · simp
        · simp [hb]
      · unfold Ow
        exact ⟨flat_len f k hk _, _, c, by rw [hln], by rw [hln]; omega, hcm, .inr ⟨by rw [hln]; omega, g, off, f1, rfl, h1, rfl⟩⟩
noncomputable def endsL (l : List LogRecord) (i : Nat) : List Int := (List.range (i + 1)).map (fun k => (endOf l k : Int))
theorem endsL_len (l : List LogRecord) (i : Nat) : (endsL l i).length = i + 1 := by simp [endsL]
theorem endsL_succ (l : List LogRecord) (i : Nat) : endsL l (i + 1) = endsL l i ++ [(endOf l (i + 1) : Int)] := by
  unfold endsL
  rw [List.range_succ, List.map_append]
  rfl
theorem endsL_at (l : List LogRecord) (i k : Nat) (h : k < (endsL l i).length) : (endsL l i)[k] = (endOf l k : Int) := by simp [endsL]
theorem catF_take {l : List LogRecord} {i : Nat} (h : i < l.length) : catF (l.take (i + 1)) = catF (l.take i) ++ l[i].frame := by
  rw [List.take_succ_eq_append_getElem h, catF_snoc]
theorem extract_all (d : ByteArray) : d.extract 0 d.size = d := by
  apply ByteArray.ext
  apply Array.toList_inj.1
  rw [Lib.extract_data]
  simp only [List.drop_zero, Nat.sub_zero]
  exact List.take_of_length_le (by rw [Array.length_toList]; exact Nat.le_refl _)
theorem fr_all {l : List LogRecord} (hok : ∀ x ∈ l, x.ok) : frFrom (catF l) 0 = (l, (catF l).size) := by
  have h := fr_prefix (cut := (catF l).size) hok (Nat.le_refl _) (n := l.length) (Nat.le_refl _) (by rw [endOf_all]; exact Nat.le_refl _) (fun h => absurd h (Nat.lt_irrefl _))
  rw [extract_all, List.take_length, endOf_all] at h
  exact h
set_option maxRecDepth 100000 in
set_option maxHeartbeats 4000000 in
theorem lawFnLogFrames_any (w : World) (x0 : List UInt8) (A0 : Option Addr) (m0 c0 : Nat) (fp0 : List Nat) (ho0 : Ow w (.s 1 (x0).length ((x0).flatMap byteC)) (.slice A0 m0 c0) fp0) (hl0 : Lt fp0 w.heap.size) :
    Calls Try.prog 6 #[.slice A0 m0 c0] w fun e w' => e = .returned (.bool true) ∧ Below w.heap.size w w' := by
  obtain ⟨rfl, hc0, hm0⟩ := ho0.nlen
  have HO := hide ho0
  clear ho0
  by_cases hz : (x0.length : Int) ≤ 1048576
  rotate_left
  · have hz' : (1048576 : Int) < x0.length := by omega
    have HB := hide (Below.refl w.heap.size w)
    go_enter Try.func6, Try.ntmps6
    go_wp2
    go_ret
    exact ⟨rfl, HB.out⟩
  have HD := hide (drawLogRecords_any x0 A0 _ c0 fp0 w HO.out hl0 (by omega))
  go_enter Try.func6, Try.ntmps6
  go_wp2_with fail
  refine HD.out.mono ?_
  rintro e w3 ⟨v, l, fq, rfl, ho3, hn3, hok, hl5, hb3⟩
  obtain ⟨A3, c3, rfl, hlc, hcm⟩ := ho3.slice
  have HO3 := hide ho3
  have HN3 := hide hn3
  have HOK := hide hok
  have HB3 := hide hb3
  have hcsz := catF_size l hok
  have HOS := hide (show OwS (w3.alloc (.cells #[.int .i64 0] 3)) w3.heap.size 3 1 intC (.slice (some ⟨w3.heap.size, 0, none⟩) 1 1) (endsL l 0) [.int .i64 0] [] from
    ⟨World.ownsRow_lit w3 #[.int .i64 0] 1 (Nat.le_refl _) (by unfold maxLen; omega) rfl, by
      have e : endsL l 0 = [0] := by simp [endsL, endOf_zero]
      rw [e]
      exact ⟨[], [], ⟨rfl, (show (Lit.int .i64 0).wf = true from by decide), rfl⟩, rfl, rfl⟩, New.nil _ _, fun g _ => by simp⟩)
  have HB4 := hide (show Below w3.heap.size w3 (w3.alloc (.cells #[.int .i64 0] 3)) from (Below.refl _ _).alloc (Nat.le_refl _) _)
  clear ho3 hn3 hok hb3 HD
  go_wp2
  go_loopw [5, 6, 7] (fun dv ev iv wr => ∃ (i : Nat) (us : List Value), i ≤ l.length ∧ dv = .string (catF (l.take i)) ∧ iv = .int .i64 (i : Int) ∧ OwS wr w3.heap.size 3 1 intC ev (endsL l i) us [] ∧ Below w3.heap.size w3 wr) (fun _ _ iv _ => l.length - (intOf iv).toNat)
  case atStart => exact ⟨0, _, Nat.zero_le _, by rw [List.take_zero]; rfl, rfl, HOS.out, HB4.out⟩
  case round =>
    obtain ⟨i, us, hil, rfl, rfl, how, hbw⟩ := hrel
    have HOW := hide how
    have HBW := hide hbw
    clear HOS HB4
    by_cases hlt : i < l.length
    · obtain ⟨ga, oa, usa, fa, rfl, hga, -, hla, hca, hoa⟩ := (HO3.out.below hbw HN3.out.lt).elem LogRecord.cells_len hlt
      obtain ⟨rfl, -, hds, -⟩ := hoa.oLogRecord
      have a0 := hca 0 _ rfl
      have a1 := hca 1 _ rfl
      have la := Nat.lt_of_lt_of_le (HN3.out.lt _ hga) hbw.size
      simp only [Nat.add_zero] at a0
      have hltI : (i : Int) < (l.length : Int) := by omega
      have HXK := hide (HOK.out _ (List.getElem_mem hlt))
      have HCT := hide (catF_take hlt)
      have HES := hide (endOf_succ HOK.out hlt)
      have HLF := hide (fun (W : World) => implLogFrame_any (l[i]).pos (l[i]).data W hds)
      have HFS := hide (show (l[i]).frame.size = 5 + (l[i]).data.size ∧ (l[i]).data.size ≤ 2000 from ⟨by rw [frame_ok HXK.out, bytes_size], HXK.out.2.2⟩)
      have hcs := catF_size (l.take i) (fun y hy => HOK.out y (List.mem_of_mem_take hy))
      rw [List.length_take] at hcs
      generalize l[i] = x at *
      clear hca hoa how hbw
      go_wp2_with fail
      refine (HLF.out _).mono ?_
      rintro e w5 ⟨rfl, hb5⟩
      have HB5 := hide (HBW.out.trans (hb5.mono HBW.out.size))
      have HO5 := hide (HOW.out.below (C := 0) hb5)
      obtain ⟨fr, hfr⟩ : ∃ fr, x.frame = fr := ⟨_, rfl⟩
      have HFR := hide hfr
      obtain ⟨pc, hpc⟩ : ∃ pc, catF (l.take i) = pc := ⟨_, rfl⟩
      rw [hfr, hpc]
      have hfs : fr.size ≤ 2005 := by rw [← hfr]; have := HFS.out; omega
      have s1 : ¬ (9223372036854775807 < pc.size + fr.size) := by rw [hpc] at hcs; omega
      obtain ⟨df, hdf⟩ : ∃ df, pc ++ fr = df := ⟨_, rfl⟩
      have HEND := hide (show ((df.size : Nat) : Int) = (endOf l (i + 1) : Int) from by
        unfold endOf
        rw [HCT.out, hpc, hfr, hdf])
      have HPF := hide (show catF (l.take (i + 1)) = df by rw [HCT.out, hpc, hfr, hdf])
      have hpb : df.size ≤ 100000 := by rw [← hdf, ByteArray.size_append]; rw [hpc] at hcs; omega
      obtain ⟨ii, hii, ii0, ii1, ii2⟩ := info_parts info_int
      have HA := hide (HO5.out.alloc (.cells #[.int .i64 (df.size : Int)] 3))
      have HXO := hide (fun (W : World) => show OwC W ([((df.size : Nat) : Int)].flatMap intC) [.int .i64 (df.size : Int)] [] from ⟨[], [], ⟨rfl, WalkArith.wf_i64 ⟨by omega, by omega⟩, rfl⟩, rfl, rfl⟩)
      have HSA := hide (show w3.heap.size ≤ (w5.alloc (.cells #[.int .i64 (df.size : Int)] 3)).heap.size from by rw [World.size_alloc]; have := HB5.out.size; omega)
      have hel := endsL_len l i
      have HEL := hide hel
      clear hb5 hfr hpc HLF hel hcs
      have hel5 : (endsL l i).length ≤ 6 := by rw [HEL.out]; omega
      go_wp2_with (first | (at_builtin; refine wpl_app rfl _ _ 56 rfl ii _ 8 Try.underlying56 hii ii0 ii1 ii2 rfl (by decide) intC_len rfl HA.out [((df.size : Nat) : Int)] (HXO.out _) (by exact New.nil _ _) (fun g _ hg => by cases hg) _ 1 1 rfl rfl (SrcAt.new w5 _ _ _ _) (by omega) (by decide) HSA.out ?_; intro A6 n6 c6 w7 hn6 hown6 hgb6; have HGB := hide hgb6; have HN6 := hide hown6; clear hown6 hgb6 hn6) | fail)
      go_roundw
      case rel => exact ⟨i + 1, _, by omega, by rw [HPF.out], by go_num, by rw [endsL_succ, ← HEND.out]; exact HN6.out, (HB5.out.alloc HB5.out.size _).trans (HGB.out.toBelow HSA.out (fun x e => HA.out.from e))⟩
      case measure => simp [intOf]; omega
    · obtain rfl : i = l.length := by omega
      rw [List.take_length]
      obtain ⟨dd, hdd⟩ : ∃ dd, catF l = dd := ⟨_, rfl⟩
      rw [hdd]
      have HDD := hide hdd
      obtain ⟨fpE, hoE, hnE⟩ := how.toOw
      obtain ⟨A6, c6, rfl⟩ := how.form
      have hel := endsL_len l l.length
      have HOE := hide hoE
      rw [hel]
      have HNE := hide hnE
      have hdb : dd.size ≤ 100000 := by rw [← hdd]; omega
      clear how hbw hdd hoE hnE
      -- SECOND HALF
      obtain ⟨w4, rfl⟩ : ∃ W, W = wr := ⟨_, rfl⟩
      obtain ⟨ge, oe, rfl, hgeM, -, -⟩ := ints_at HOE.out (i := 0) (by rw [endsL_len]; omega)
      have hgeB : ge < w4.heap.size := HNE.out.lt _ hgeM
      have HCE := hide (fun (W : World) (hb : Below w4.heap.size w4 W) (n : Nat) (hn : n ≤ l.length) => show W.cell? ⟨ge, oe + n, none⟩ = some (.int .i64 (endOf l n : Int)) from by
        obtain ⟨ge', oe', e, -, hce, -⟩ := ints_at HOE.out (i := n) (by rw [endsL_len]; omega)
        injection e with e
        injection e with e1 e2 _
        subst e1 e2
        rw [endsL_at] at hce
        exact (hb.cell (p := ⟨ge, oe + n, none⟩) hgeB).trans hce)
      obtain ⟨qq, hqq⟩ : ∃ q, dd.size / 40 = q := ⟨_, rfl⟩
      have hqt : Int.tdiv (dd.size : Int) 40 = (qq : Int) := by rw [← hqq]; exact (Int.ofNat_tdiv _ 40).symm
      have hqb : qq ≤ 100000 := by omega
      have hll : l.length ≤ 5 := hl5
      clear hqq hlt hil hcsz
      go_wp2
      go_loopw [8] (fun cv wq => ∃ cut : Nat, cv = .int .i64 (cut : Int) ∧ cut ≤ 300001 ∧ Below w4.heap.size w4 wq) (fun cv _ => 100001 - (intOf cv).toNat)
      case atStart => exact ⟨0, rfl, by omega, Below.refl _ _⟩
      case round =>
        obtain ⟨wq, rfl⟩ : ∃ W, W = wr := ⟨_, rfl⟩
        obtain ⟨cut, rfl, hcb, hbq⟩ := hrel
        have HBQ := hide hbq
        clear hbq
        by_cases hle : cut ≤ dd.size
        · have hleI : (cut : Int) ≤ (dd.size : Int) := by omega
          go_wp2
          go_loopw [9] (fun nv wz => (∃ n : Nat, nv = .int .i64 (n : Int) ∧ n ≤ l.length ∧ endOf l n ≤ cut) ∧ wq = wz) (fun nv _ => l.length - (intOf nv).toNat)
          case atStart => exact ⟨⟨0, rfl, Nat.zero_le _, by rw [endOf_zero]; exact Nat.zero_le _⟩, rfl⟩
          case round =>
            obtain ⟨⟨n, rfl, hnl, hnc⟩, rfl⟩ := hrel
            by_cases h1 : n < l.length
            · have h1I : (n : Int) < (l.length : Int) := by omega
              have cn1 := HCE.out wq HBQ.out (n + 1) (by omega)
              have hle1 := Nat.lt_of_lt_of_le hgeB HBQ.out.size
              obtain ⟨e1, he1⟩ : ∃ e1, endOf l (n + 1) = e1 := ⟨_, rfl⟩
              rw [he1] at cn1
              have HE1 := hide he1
              clear he1
              by_cases h2 : e1 ≤ cut
              · go_wp2
                go_roundw
                case rel => exact ⟨⟨n + 1, by congr 1, by omega, by rw [HE1.out]; exact h2⟩, by trivial⟩
                case measure => simp [intOf]; omega
              · have HMAX := hide (show n < l.length → cut < endOf l (n + 1) from fun _ => by rw [HE1.out]; omega)
                have h2I : ¬ ((e1 : Int) ≤ (cut : Int)) := by omega
                have HFR := hide (show frFrom (dd.extract 0 cut) 0 = (l.take n, endOf l n) from by rw [← HDD.out]; exact fr_prefix HOK.out (by rw [HDD.out]; exact hle) hnl hnc HMAX.out)
                have hln : (l.take n).length = n := by rw [List.length_take]; omega
                have HIL := hide (show Calls Try.prog 35 #[.string (dd.extract 0 cut)] wq (fun e w' => ∃ Ax cx fp, e = .returned (.tuple #[.slice Ax n cx, .int .i64 ((endOf l n : Nat) : Int)]) ∧ Ow w' (.s 2 (l.take n).length ((l.take n).flatMap LogRecord.cells)) (.slice Ax n cx) fp ∧ New w' fp wq.heap.size ∧ Below wq.heap.size wq w') from
                  (implLogFrames_any (dd.extract 0 cut) wq (by rw [ByteArray.size_extract]; omega)).mono (fun e w' h => by
                    obtain ⟨v, fp, he, ho, hn, hb⟩ := h
                    rw [HFR.out] at he ho
                    obtain ⟨Ax, cx, rfl, _, _⟩ := ho.slice
                    have ev : Value.slice Ax (l.take n).length cx = .slice Ax n cx := by rw [hln]
                    exact ⟨Ax, cx, fp, ev ▸ he, ev ▸ ho, hn, hb⟩))
                clear hln
                go_wp2_with fail
                refine HIL.out.mono ?_
                rintro e w9 ⟨Ax, cx, fx, rfl, hxo, hxn, hb9⟩
                have HB9 := hide (HBQ.out.trans (hb9.mono HBQ.out.size))
                have cn9 := HCE.out w9 HB9.out n hnl
                have hle9 := Nat.lt_of_lt_of_le hgeB HB9.out.size
                have HO9 := hide (HO3.out.below (HBW.out.trans (HB9.out.mono HBW.out.size)) HN3.out.lt)
                obtain ⟨fpp, hsub, hop⟩ := HO9.out.takeN LogRecord.cells_len hnl
                have HLO := hide (loRecords_same (l.take n) Ax A3 _ n cx c3 fx fpp w9 hxo hop hxn.lt (((HN3.out.lt.up HBW.out).up (HB9.out.mono (Nat.le_refl _))).sub hsub))
                have hn3 : n ≤ c3 := Nat.le_trans hnl hlc
                have hnI3 : (n : Int) ≤ (c3 : Int) := by omega
                generalize endOf l n = en at *
                clear hxo hxn hb9 hop hsub HIL HFR
                rcases A3 with _ | ⟨ab, ao, az⟩
                all_goals
                  go_wp2_with fail
                  refine HLO.out.mono ?_
                  rintro e w10 ⟨rfl, hb10⟩
                  have HB10 := hide (HB9.out.trans (hb10.mono HB9.out.size))
                  clear hb10
                  go_wp2
                  go_roundw
                  case rel => exact ⟨cut + 1 + qq, by congr 1, by omega, HB10.out⟩
                  case measure => simp [intOf]; omega
            · have HMAX := hide (show n < l.length → cut < endOf l (n + 1) from fun h => absurd h h1)
              have h1I : ¬ ((n : Int) < (l.length : Int)) := by omega
              have HFR := hide (show frFrom (dd.extract 0 cut) 0 = (l.take n, endOf l n) from by rw [← HDD.out]; exact fr_prefix HOK.out (by rw [HDD.out]; exact hle) hnl hnc HMAX.out)
              have hln : (l.take n).length = n := by rw [List.length_take]; omega
              have HIL := hide (show Calls Try.prog 35 #[.string (dd.extract 0 cut)] wq (fun e w' => ∃ Ax cx fp, e = .returned (.tuple #[.slice Ax n cx, .int .i64 ((endOf l n : Nat) : Int)]) ∧ Ow w' (.s 2 (l.take n).length ((l.take n).flatMap LogRecord.cells)) (.slice Ax n cx) fp ∧ New w' fp wq.heap.size ∧ Below wq.heap.size wq w') from
                (implLogFrames_any (dd.extract 0 cut) wq (by rw [ByteArray.size_extract]; omega)).mono (fun e w' h => by
                  obtain ⟨v, fp, he, ho, hn, hb⟩ := h
                  rw [HFR.out] at he ho
                  obtain ⟨Ax, cx, rfl, _, _⟩ := ho.slice
                  have ev : Value.slice Ax (l.take n).length cx = .slice Ax n cx := by rw [hln]
                  exact ⟨Ax, cx, fp, ev ▸ he, ev ▸ ho, hn, hb⟩))
              clear hln
              go_wp2_with fail
              refine HIL.out.mono ?_
              rintro e w9 ⟨Ax, cx, fx, rfl, hxo, hxn, hb9⟩
              have HB9 := hide (HBQ.out.trans (hb9.mono HBQ.out.size))
              have cn9 := HCE.out w9 HB9.out n hnl
              have hle9 := Nat.lt_of_lt_of_le hgeB HB9.out.size
              have HO9 := hide (HO3.out.below (HBW.out.trans (HB9.out.mono HBW.out.size)) HN3.out.lt)
              obtain ⟨fpp, hsub, hop⟩ := HO9.out.takeN LogRecord.cells_len hnl
              have HLO := hide (loRecords_same (l.take n) Ax A3 _ n cx c3 fx fpp w9 hxo hop hxn.lt (((HN3.out.lt.up HBW.out).up (HB9.out.mono (Nat.le_refl _))).sub hsub))
              have hn3 : n ≤ c3 := Nat.le_trans hnl hlc
              have hnI3 : (n : Int) ≤ (c3 : Int) := by omega
              generalize endOf l n = en at *
              clear hxo hxn hb9 hop hsub HIL HFR
              rcases A3 with _ | ⟨ab, ao, az⟩
              all_goals
                go_wp2_with fail
                refine HLO.out.mono ?_
                rintro e w10 ⟨rfl, hb10⟩
                have HB10 := hide (HB9.out.trans (hb10.mono HB9.out.size))
                clear hb10
                go_wp2
                go_roundw
                case rel => exact ⟨cut + 1 + qq, by congr 1, by omega, HB10.out⟩
                case measure => simp [intOf]; omega
        · have hleI : ¬ ((cut : Int) ≤ (dd.size : Int)) := by omega
          have HIL := hide (show Calls Try.prog 35 #[.string dd] wq (fun e w' => ∃ v fp, e = .returned (.tuple #[v, .int .i64 ((dd.size : Nat) : Int)]) ∧ Ow w' (.s 2 l.length (l.flatMap LogRecord.cells)) v fp ∧ New w' fp wq.heap.size ∧ Below wq.heap.size wq w') from
            (implLogFrames_any dd wq (by omega)).mono (fun e w' h => by obtain ⟨v, fp, he, ho, hn, hb⟩ := h; rw [← HDD.out, fr_all HOK.out, HDD.out] at he ho; exact ⟨v, fp, he, ho, hn, hb⟩))
          go_wp2_with fail
          refine HIL.out.mono ?_
          rintro e w9 ⟨vx, fx, rfl, hxo, hxn, hb9⟩
          obtain ⟨Ax, cx, rfl, _, _⟩ := hxo.slice
          have HB9 := hide (HBQ.out.trans (hb9.mono HBQ.out.size))
          have HO9 := hide (HO3.out.below (HBW.out.trans (HB9.out.mono HBW.out.size)) HN3.out.lt)
          have HLO := hide (loRecords_same l Ax A3 _ _ cx c3 fx fq w9 hxo HO9.out hxn.lt ((HN3.out.lt.up HBW.out).up (HB9.out.mono (Nat.le_refl _))))
          clear hxo hxn hb9 HIL
          go_wp2_with fail
          refine HLO.out.mono ?_
          rintro e w10 ⟨rfl, hb10⟩
          have HB10 := hide (HB9.out.trans (hb10.mono HB9.out.size))
          clear hb10
          go_wp2
          go_ret
          exact ⟨rfl, HB3.out.trans ((HBW.out.trans (HB10.out.mono HBW.out.size)).mono HB3.out.size)⟩
end Go.Proofs.Ytbjblchhenmgjaa
