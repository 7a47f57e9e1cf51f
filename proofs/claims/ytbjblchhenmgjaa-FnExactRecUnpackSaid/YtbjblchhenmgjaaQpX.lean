/-
  RecUnpack of the program. FnExactRecUnpack returns true for every input: the program answers as the reference. No condition.
-/
import Derived.Test.YtbjblchhenmgjaaQpV
import Derived.Test.YtbjblchhenmgjaaQpW
import Derived.Test.YtbjblchhenmgjaaQpL
import Derived.Deep.RegionHeld3
import Derived.Deep.RegionWith
import Derived.Deep.RegionLaw
import Derived.Deep.CutRange
import Derived.Deep.DeepCutAuto
import Derived.Test.YtbjblchhenmgjaaQpQ
import Derived.Test.YtbjblchhenmgjaaQpR
set_option linter.unusedVariables false
set_option linter.unusedSimpArgs false
namespace Go.Proofs.Ytbjblchhenmgjaa
open Go.ChangeShapes Go.WideShapes Go.ChangeAt Go.RowKit

theorem info_EventI : (Try.prog.info? 28).map (fun i => (i.zero, i.size, i.bytes)) = some (some (.agg #[.string .empty, .int .i64 0, .int .i64 0, .int .i64 0, .string .empty, .slice none 0 0, .slice none 0 0]), 7, 104) := by kernel_rfl
set_option maxRecDepth 100000 in
set_option maxHeartbeats 4000000 in
theorem implRecUnpack_any (p : Int) (s : ByteArray) (w : World) (hp : (Lit.int .i64 p).wf = true) (hs : s.size ≤ 1048576) :
    Calls Try.prog 24 #[.int .i64 p, .string s] w (RecOut p s w) := by
  have HZ0 := hide (Row.new w 39 [.int .i64 0, .string .empty, .slice none 0 0])
  have HB0 := hide (show Below w.heap.size w (w.alloc (.cells #[.int .i64 0, .string .empty, .slice none 0 0] 39)) from (Below.refl _ _).alloc (Nat.le_refl _) _)
  have HP := hide hp
  clear hp
  by_cases hl : 2000 < s.size
  · have hli : (2000 : Int) < (s.size : Int) := by omega
    have HNO := hide (unrec_long (p := p) hl)
    clear hl
    go_enter Try.func24, Try.ntmps24
    go_upto_region 1 with fail
    generalize hw1 : w.alloc _ = w1
    have HZ1 := hide (show Row w1 w.heap.size 39 [.int .i64 0, .string .empty, .slice none 0 0] from by rw [← hw1]; exact HZ0.out)
    have HB1 := hide (show Below w.heap.size w w1 from by rw [← hw1]; exact HB0.out)
    clear hw1
    have z0 := HZ1.out.cell 0
    have zf0 := HZ1.out.frozen 0
    have z1 := HZ1.out.cell 1
    have zf1 := HZ1.out.frozen 1
    have z2 := HZ1.out.cell 2
    have zf2 := HZ1.out.frozen 2
    have zlt := HZ1.out.lt
    go_wp2
    refine bodyPost_ret (ret_row_tmp rfl _ _ w.heap.size 39 [.int .i64 0, .string .empty, .slice none 0 0] (HZ1.out.setAll [.int .i64 0, .string .empty, .slice none 0 0] rfl) _ (.bool false) rfl rfl Try.underlying39 rfl (by kernel_rfl)) rfl ?_
    exact ⟨_, [], by rw [HNO.out.2], by rw [HNO.out.1]; exact (recNone HB1.out [.int .i64 0, .string .empty, .slice none 0 0]).1, (recNone HB1.out [.int .i64 0, .string .empty, .slice none 0 0]).2⟩
  have hli : ¬ ((2000 : Int) < (s.size : Int)) := by omega
  have hl2 : s.size ≤ 2000 := by omega
  have hL : s.data.toList.length = s.size := by rw [Array.length_toList]; rfl
  have HL := hide hL
  have HST := rdI_start (w.alloc (.cells #[.int .i64 0, .string .empty, .slice none 0 0] 39)) s hl2 (w.heap.size + 1 + 1) (by simp)
  rw [World.size_alloc] at HST
  have HST := hide HST
  clear hl hL
  have hcv := fun (u : World) => Lib.run_convert_string_bytes (P := Try.prog) u 9 22 5 s Try.underlying9 Try.underlying22 Try.underlying5
  have hbs := fun (u : World) => Lib.bytesWorld_size u 5 s
  go_enter Try.func24, Try.ntmps24
  go_upto_region 4 with fail
  generalize hwx : World.alloc (Lib.bytesWorld _ _ _) _ = w3
  generalize grownCap _ _ _ _ = cap
  generalize hg : w.heap.size + 1 + 1 = g
  have hS : RdI w3 g s.data.toList s.data.toList false ∧ Below (w.heap.size + 1) (w.alloc (.cells #[.int .i64 0, .string .empty, .slice none 0 0] 39)) w3 := by rw [← hwx, ← hg]; exact HST.out
  have HR3 := hide hS.1
  have HB3 := hide (HB0.out.trans (hS.2.mono (Nat.le_succ _)))
  have HZ3 := hide (HZ0.out.below hS.2 (Nat.lt_succ_self _))
  have lt3 := HR3.out.lt
  have hg1 : w.heap.size < g := by omega
  clear HST hS hwx hcv hbs hg
  go_wp2_with fail
  refine (textI_any HR3.out).mono ?_
  rintro e w4 ⟨key, l1, bd1, rfl, hk, h4, hg4, hok1⟩
  have lt4 := Nat.lt_of_lt_of_le lt3 hg4.size
  have HZ4 := hide (HZ3.out.grown hg4 (fun e => by injection e with e; omega))
  have HB4 := hide (HB3.out.trans (below_of_grown hg4 (Nat.le_of_lt hg1) HB3.out.size))
  have HK1 := hide hok1
  go_upto_region 5 with fail
  generalize hw5 : World.alloc w4 _ = w5
  have hB5 : Below w4.heap.size w4 w5 := by rw [← hw5]; exact (Below.refl _ _).alloc (Nat.le_refl _) _
  have HX5 := hide (show RecAt w w5 w4.heap.size p key (.slice none 0 0) [] [] [] from ⟨HZ4.out.below hB5 HZ4.out.lt, by rw [← hw5]; exact Row.new w4 _ _, OwS.nil _ _ _ _ _, HB4.out.trans (hB5.mono HB4.out.size), Nat.lt_trans hg1 lt4⟩)
  have HR5 := hide (h4.below hB5)
  clear hB5 hw5 h4 hg4 hok1 HR3 HZ3 HZ4 HB3 HB4
  go_wp2_with fail
  refine (numI_any HR5.out).mono ?_
  rintro e w6 ⟨n, l2, bd2, rfl, hn0, hn1, h6, hg6, hok2⟩
  obtain ⟨n, rfl⟩ : ∃ m : Nat, n = (m : Int) := ⟨n.toNat, by omega⟩
  have HQ := hide (PartsAt.start HK1.out hok2)
  have HQL := hide (show bd2 = false → l2.length ≤ 2000 from fun hb => by
    have e2 := hok2.1 hb
    have e1 := HK1.out.1 e2.1
    have k1 := pShort_bulk e1.2
    have k2 := pOne_bulk e2.2
    have := HL.out
    omega)
  have HX6 := hide (HX5.out.far hg6 hg1 lt4)
  have HR6 := hide h6
  clear h6 hg6 hok2 HK1 HX5 HR5
  go_wp2
  go_loopw [25] (fun iv wr => ∃ (i : Nat) (es : List Event) (v : Value) (us : List Value) (fi : List Nat) (l : List UInt8) (b : Bool), iv = .int .i64 (i : Int) ∧ i ≤ n ∧ es.length ≤ i ∧ Event.bulkS es ≤ 2000 * es.length ∧ RecAt w wr w4.heap.size p key v es us fi ∧ RdI wr g s.data.toList l b ∧ PartsAt s.data.toList key b (n - i) es l ∧ (b = false → l.length ≤ 2000)) (fun iv _ => n - (intOf iv).toNat)
  case atStart => exact ⟨0, [], _, [], [], l2, bd2, rfl, Nat.zero_le _, Nat.le_refl _, by simp [Event.bulkS], HX6.out, HR6.out, HQ.out, HQL.out⟩
  case round =>
    obtain ⟨i, es, v, us, fi, l, b, rfl, hin, hke, hbk, hx, hr, hq, hql⟩ := hrel
    have HX := hide hx
    have HR := hide hr
    have HPA := hide hq
    have HKE := hide hke
    have HBK := hide hbk
    have HQL := hide hql
    have HIN := hide hin
    clear hx hr hq HX6 HR6 HQ hke hbk hql
    by_cases hik : i < n
    · have HC7 := hide (numI_any HR.out)
      go_wp2_with fail
      refine HC7.out.mono ?_
      rintro e w7 ⟨a, l3, b3, rfl, ha0, ha1, h7, hg7, hok7⟩
      obtain ⟨a, rfl⟩ : ∃ m : Nat, a = (m : Int) := ⟨a.toNat, by omega⟩
      have HX7 := hide (HX.out.far hg7 hg1 lt4)
      have HK7 := hide hok7
      have HC8 := hide (numI_any h7)
      clear h7 hg7 hok7 HC7
      go_wp2_with fail
      refine HC8.out.mono ?_
      rintro e w8 ⟨c, l4, b4, rfl, hc0, hc1, h8, hg8, hok8⟩
      obtain ⟨c, rfl⟩ : ∃ m : Nat, c = (m : Int) := ⟨c.toNat, by omega⟩
      have HX8 := hide (HX7.out.far hg8 hg1 lt4)
      have HK8 := hide hok8
      obtain ⟨m, hm⟩ : ∃ m : Nat, a * 256 + c = m := ⟨_, rfl⟩
      have hbits := or_byteR a c m (by omega) (by omega) hm
      have hmb : m ≤ 65535 := by omega
      have HM := hide hm
      have HC9 := hide (takeI_any m hmb h8)
      clear h8 hg8 hok8 HC8 HX7 hm
      go_wp2_with fail
      refine HC9.out.mono ?_
      rintro e w9 ⟨B9, c9, xs, l5, b5, rfl, hcc, hby, h9, hg9, hcase⟩
      obtain ⟨fpx, hxo, hxf⟩ := hby.ow hcc
      have hxl : xs.length = m := hby.1
      have HX9 := hide (HX8.out.far hg9 hg1 lt4)
      obtain ⟨ev, hev⟩ : ∃ ev, unpackE xs = ev := ⟨_, rfl⟩
      obtain ⟨ub, hub⟩ : ∃ ub, unpackB xs = ub := ⟨_, rfl⟩
      have HPT := hide (fun (hb : b = false) => by
        have h7 := HK7.out
        rw [hb] at h7
        have h := part_take HM.out h7 HK8.out hcase
        rw [hev, hub] at h
        exact h)
      have HEV := hide hev
      have HXL := hide hxl
      have HC10 := hide (show Calls Try.prog 17 #[.slice B9 m c9] w9 (EvRet ev ub w9) from (implEventUnpack_any xs B9 m c9 fpx w9 hxo hxf (by omega)).mono (fun e w' h => by have h2 := EvRet.of h; rw [hev, hub] at h2; exact h2))
      have HBT := hide (show b5 = false → b4 = false from fun h => by rcases hcase with ⟨-, -, -, e⟩ | ⟨-, -, -, e⟩ <;> rw [e] at h; exact h; cases h)
      have HR9 := hide h9
      have HLF := hide HX9.out.evs.new.lt
      have HLO := hide HX9.out.evs.lt
      have h49 : w4.heap.size < w9.heap.size := HX9.out.box.lt
      have hg9l : g < w9.heap.size := HR9.out.lt
      clear h9 hg9 hcase hby hcc hxo hxf hev hub hxl HC9 hbits HX8
      go_wp2_with fail
      refine HC10.out.mono ?_
      rintro e w10 ⟨A1, c1, A2, c2, fq, rfl, hxo, hxn, hb10⟩
      have HX10 := hide (HX9.out.step hb10)
      have HR10 := hide (HR9.out.below hb10)
      have HXO := hide hxo
      have HXN := hide hxn
      clear HC10 hxo hxn HX9 HR9
      go_upto_region 9 with fail
      generalize hwa : World.alloc w10 _ = wa
      have hba : Below w10.heap.size w10 wa := by rw [← hwa]; exact (Below.refl _ _).alloc (Nat.le_refl _) _
      have HXA := hide (HX10.out.step hba)
      have HRA := hide (HR10.out.below hba)
      have HEA := hide (show Row wa w10.heap.size 28 [.string ev.type_, .int .i64 ev.version, .int .i64 ev.body.sort, .int .i64 ev.body.num, .string ev.body.text, .slice A1 ev.body.names.length c1, .slice A2 ev.body.kids.length c2] from by rw [← hwa]; exact Row.new w10 _ _)
      have HBA := hide hba
      obtain ⟨rb1, rf1⟩ := HRA.out.bad
      have rl1 := HRA.out.lt
      clear hwa hba HX10 HR10
      by_cases hbad : b5 = true ∨ ub = false
      · have HNO := hide (unrec_gone (p := p) (s := s) (by
          cases hb : b
          · exact (show PartsAt s.data.toList key false (n - i - 1 + 1) es l from by have h := HPA.out; rw [hb] at h; rw [show n - i - 1 + 1 = n - i by omega]; exact h).gone ((HPT.out hb).1 hbad)
          · exact HPA.out.2 hb))
        have HXF := hide (HXA.out.far (grownBy_setCell wa ⟨g, 1, none⟩ (.bool true)) hg1 lt4)
        have z0 := HXA.out.zero.cell 0
        have zf0 := HXA.out.zero.frozen 0
        have z1 := HXA.out.zero.cell 1
        have zf1 := HXA.out.zero.frozen 1
        have z2 := HXA.out.zero.cell 2
        have zf2 := HXA.out.zero.frozen 2
        have zlt := HXA.out.zero.lt
        rcases hbad with rfl | rfl
        · go_wp2
          refine bodyPost_ret (ret_row_tmp rfl _ _ w.heap.size 39 [.int .i64 0, .string .empty, .slice none 0 0] (HXF.out.zero.setAll [.int .i64 0, .string .empty, .slice none 0 0] rfl) _ (.bool false) rfl rfl Try.underlying39 rfl (by kernel_rfl)) rfl ?_
          exact ⟨_, [], by rw [HNO.out.2], by rw [HNO.out.1]; exact (recNone HXF.out.below [.int .i64 0, .string .empty, .slice none 0 0]).1, (recNone HXF.out.below [.int .i64 0, .string .empty, .slice none 0 0]).2⟩
        · cases b5
          all_goals
            go_wp2
            refine bodyPost_ret (ret_row_tmp rfl _ _ w.heap.size 39 [.int .i64 0, .string .empty, .slice none 0 0] (HXF.out.zero.setAll [.int .i64 0, .string .empty, .slice none 0 0] rfl) _ (.bool false) rfl rfl Try.underlying39 rfl (by kernel_rfl)) rfl ?_
            exact ⟨_, [], by rw [HNO.out.2], by rw [HNO.out.1]; exact (recNone HXF.out.below [.int .i64 0, .string .empty, .slice none 0 0]).1, (recNone HXF.out.below [.int .i64 0, .string .empty, .slice none 0 0]).2⟩
      · obtain rfl : b5 = false := by cases b5 <;> simp_all
        obtain rfl : ub = true := by cases ub <;> simp_all
        have e8 := HK8.out.1 (HBT.out rfl)
        have e7 := HK7.out.1 e8.1
        obtain rfl : b = false := e7.1
        have hps := (HPT.out rfl).2 rfl rfl
        have HPS := hide hps
        have hev2 : ev.bulk ≤ 2000 := by
          rw [← HEV.out]
          exact Nat.le_trans (unpackE_bulk xs) (Nat.le_trans hps.2.2 (HQL.out rfl))
        have HEB := hide hev2
        have HPN := hide (show PartsAt s.data.toList key false (n - (i + 1)) (es ++ [ev]) l5 from (show PartsAt s.data.toList key false (n - (i + 1) + 1) es l from by rw [show n - (i + 1) + 1 = n - i by omega]; exact HPA.out).next hps.1)
        clear e8 e7 hps hev2 hbad
        go_upto_region 12 with fail
        generalize hww : World.setCell wa _ _ = ww
        have HXW := hide (show RecAt w ww w4.heap.size p key v es us fi from by rw [← hww]; exact HXA.out.far (grownBy_setCell wa ⟨g, 1, none⟩ (.bool false)) hg1 lt4)
        have HRW := hide (show RdI ww g s.data.toList l5 false from by rw [← hww]; exact HRA.out.setBad false)
        have hs10 : w9.heap.size ≤ w10.heap.size := hb10.size
        have hEW : Row ww w10.heap.size 28 [.string ev.type_, .int .i64 ev.version, .int .i64 ev.body.sort, .int .i64 ev.body.num, .string ev.body.text, .slice A1 ev.body.names.length c1, .slice A2 ev.body.kids.length c2] := by rw [← hww]; exact HEA.out.far (by simp; omega) _
        have hno : g ∉ fq := HXN.out.out hg9l
        have hxn2 : New ww fq w9.heap.size := by rw [← hww]; exact (HXN.out.below HBA.out HXN.out.lt).setCell _ _
        have hxo2 : OwC ww ev.cells [.string ev.type_, .int .i64 ev.version, .int .i64 ev.body.sort, .int .i64 ev.body.num, .string ev.body.text, .slice A1 ev.body.names.length c1, .slice A2 ev.body.kids.length c2] fq := by rw [← hww]; exact (HXO.out.below HBA.out HXN.out.lt).setCell (a := ⟨g, 1, none⟩) hno _
        have HX2 := hide (HXW.out.step ((Below.refl ww.heap.size ww).alloc (Nat.le_refl _) (.cells #[.string ev.type_, .int .i64 ev.version, .int .i64 ev.body.sort, .int .i64 ev.body.num, .string ev.body.text, .slice A1 ev.body.names.length c1, .slice A2 ev.body.kids.length c2] 28)))
        have HR2 := hide (HRW.out.below ((Below.refl ww.heap.size ww).alloc (Nat.le_refl _) (.cells #[.string ev.type_, .int .i64 ev.version, .int .i64 ev.body.sort, .int .i64 ev.body.num, .string ev.body.text, .slice A1 ev.body.names.length c1, .slice A2 ev.body.kids.length c2] 28)))
        have HNW := hide (show New (ww.alloc (.cells #[.string ev.type_, .int .i64 ev.version, .int .i64 ev.body.sort, .int .i64 ev.body.num, .string ev.body.text, .slice A1 ev.body.names.length c1, .slice A2 ev.body.kids.length c2] 28)) (fi ++ fq) (w4.heap.size + 1) from ((HXW.out.evs.new).alloc _).app (hxn2.alloc _) HLF.out (by omega))
        have HNO2 := hide (show ∀ gg, v.ownBlock = some gg → gg ∉ fq from fun gg hgg => HXN.out.out (HLO.out gg hgg))
        have HEO := hide (show OwC (ww.alloc (.cells #[.string ev.type_, .int .i64 ev.version, .int .i64 ev.body.sort, .int .i64 ev.body.num, .string ev.body.text, .slice A1 ev.body.names.length c1, .slice A2 ev.body.kids.length c2] 28)) ([ev].flatMap Event.cells) [.string ev.type_, .int .i64 ev.version, .int .i64 ev.body.sort, .int .i64 ev.body.num, .string ev.body.text, .slice A1 ev.body.names.length c1, .slice A2 ev.body.kids.length c2] fq from by rw [List.flatMap_singleton]; exact hxo2.alloc hxn2.lt _)
        have HSA := hide (show w4.heap.size + 1 ≤ (ww.alloc (.cells #[.string ev.type_, .int .i64 ev.version, .int .i64 ev.body.sort, .int .i64 ev.body.num, .string ev.body.text, .slice A1 ev.body.names.length c1, .slice A2 ev.body.kids.length c2] 28)).heap.size from by rw [World.size_alloc]; have := HXW.out.box.lt; omega)
        obtain ⟨ia, hia, ia0, ia1, ia2⟩ := info_parts info_EventI
        have hke2 : es.length ≤ 255 := by have := HKE.out; omega
        have b0 := hEW.cell 0
        have b1 := hEW.cell 1
        have b2 := hEW.cell 2
        have b3 := hEW.cell 3
        have b4 := hEW.cell 4
        have b5 := hEW.cell 5
        have b6 := hEW.cell 6
        have bl := hEW.lt
        have x2 := HXW.out.box.cell 2
        have xl := HXW.out.box.lt
        clear hww hEW hxn2 hxo2 hno rb1 rf1 rl1 HXA HRA HEA
        go_wp2_with (first | (at_builtin; refine wpl_app rfl _ _ 37 rfl ia _ 104 Try.underlying37 hia ia0 ia1 ia2 rfl (by decide) Event.cells_len rfl HX2.out.evs [ev] HEO.out HNW.out HNO2.out _ 1 1 rfl rfl (SrcAt.new ww _ _ _ _) (by omega) (by decide) HSA.out ?_; intro A5 n5 c5 w11 hn5 hown5 hgb5; have HG5 := hide hgb5; have HN5 := hide hown5; have r5 := hgb5.row HX2.out.box (HX2.out.evs.low (Nat.lt_succ_self _)); have q5 := r5.cell 2; have f5 := r5.frozen 2; have l5 := r5.lt; clear hown5 hgb5 hn5 r5))
        go_roundw
        case rel =>
          refine ⟨i + 1, es ++ [ev], .slice A5 n5 c5, us ++ [.string ev.type_, .int .i64 ev.version, .int .i64 ev.body.sort, .int .i64 ev.body.num, .string ev.body.text, .slice A1 ev.body.names.length c1, .slice A2 ev.body.kids.length c2], fi ++ fq, _, false, by go_num, by omega, by rw [List.length_append, List.length_singleton]; have := HKE.out; omega, by rw [Event.bulkS_app, List.length_append, List.length_singleton]; have := HBK.out; have := HEB.out; omega, HX2.out.put HG5.out HN5.out, ?_, HPN.out, fun _ => Nat.le_trans HPS.out.2.1 (HQL.out rfl)⟩
          exact HR2.out.low ((HG5.out.toBelow (B := w4.heap.size) (Nat.le_of_succ_le HSA.out) (fun x e => Nat.le_of_succ_le (HX2.out.evs.from e))).setCell (p := ⟨w4.heap.size, 2, none⟩) (Nat.le_refl _) (.slice A5 n5 c5)) lt4
        case measure => simp [intOf]; omega
    · obtain rfl : i = n := by omega
      have HLF := hide (show PartsAt s.data.toList key b 0 es l from by have h := HPA.out; rw [Nat.sub_self] at h; exact h)
      obtain ⟨fq, hxo, hxn⟩ := HX.out.ow HP.out (show key.size ≤ maxLen from by unfold maxLen; omega)
      obtain ⟨A1, c1, rfl⟩ := HX.out.evs.form
      have HXO := hide hxo
      have HXN := hide hxn
      clear hxo hxn
      by_cases hse : s.toList.isEmpty = true
      · have HNO := hide (show unrecR p s = Record.none_ ∧ unrecB p s = false from by rw [txt_nil (List.isEmpty_iff.1 hse)]; exact unrec_empty)
        have z0 := HX.out.zero.cell 0
        have zf0 := HX.out.zero.frozen 0
        have z1 := HX.out.zero.cell 1
        have zf1 := HX.out.zero.frozen 1
        have z2 := HX.out.zero.cell 2
        have zf2 := HX.out.zero.frozen 2
        have zlt := HX.out.zero.lt
        go_wp2
        refine bodyPost_ret (ret_row_tmp rfl _ _ w.heap.size 39 [.int .i64 0, .string .empty, .slice none 0 0] (HX.out.zero.setAll [.int .i64 0, .string .empty, .slice none 0 0] rfl) _ (.bool false) rfl rfl Try.underlying39 rfl (by kernel_rfl)) rfl ?_
        exact ⟨_, [], by rw [HNO.out.2], by rw [HNO.out.1]; exact (recNone HX.out.below [.int .i64 0, .string .empty, .slice none 0 0]).1, (recNone HX.out.below [.int .i64 0, .string .empty, .slice none 0 0]).2⟩
      have HSE := hide (show s ≠ .empty from fun e => hse (by rw [e, ByteArray.toList_eq]; rfl))
      have hsf : s.toList.isEmpty = false := by simpa using hse
      have HRP := hide (implRecPack_any ⟨p, key, es⟩ _ _ wr HXO.out HXN.out.lt (by have h1 := HBK.out; have h2 := HKE.out; show key.size + (es.length + Event.bulkS es) ≤ _; omega))
      have x0 := HX.out.box.cell 0
      have x1 := HX.out.box.cell 1
      have x2 := HX.out.box.cell 2
      have xl := HX.out.box.lt
      clear hse
      go_wp2_with fail
      refine HRP.out.mono ?_
      rintro e w7 ⟨rfl, hb7⟩
      obtain ⟨pk, hpk⟩ : ∃ pk, Record.packed ⟨p, key, es⟩ = pk := ⟨_, rfl⟩
      rw [hpk]
      have HPK := hide hpk
      have HX7 := hide (HX.out.step hb7)
      have HF := hide (fun vs => recFin (vs := vs) HX7.out.zero HX7.out.below (HXO.out.below hb7 HXN.out.lt) ((HXN.out.below hb7 HXN.out.lt).mono (by have := HX7.out.ord; omega)))
      clear hpk hb7 HRP x0 x1 x2 xl
      have z0 := HX7.out.zero.cell 0
      have zf0 := HX7.out.zero.frozen 0
      have z1 := HX7.out.zero.cell 1
      have zf1 := HX7.out.zero.frozen 1
      have z2 := HX7.out.zero.cell 2
      have zf2 := HX7.out.zero.frozen 2
      have zlt := HX7.out.zero.lt
      have x0 := HX7.out.box.cell 0
      have x1 := HX7.out.box.cell 1
      have x2 := HX7.out.box.cell 2
      have xl := HX7.out.box.lt
      by_cases hpe : pk = s
      · subst hpe
        have HY := hide (unrec_back (p := p) (s := pk) (x := ⟨p, key, es⟩) rfl HSE.out HPK.out)
        go_wp2
        refine bodyPost_ret (ret_row_tmp rfl _ _ w.heap.size 39 [.int .i64 p, .string key, .slice A1 es.length c1] (HX7.out.zero.setAll [.int .i64 p, .string key, .slice A1 es.length c1] rfl) _ (.bool true) rfl rfl Try.underlying39 rfl (by kernel_rfl)) rfl ?_
        exact ⟨_, fq, by rw [HY.out.2], by rw [HY.out.1]; exact (HF.out [.int .i64 p, .string key, .slice A1 es.length c1]).1, (HF.out [.int .i64 p, .string key, .slice A1 es.length c1]).2⟩
      · have hpl : ¬ pk.toList = s.toList := fun e => hpe (txt_inj e)
        have hpb : (pk.toList == s.toList) = false := beq_eq_false_iff_ne.2 hpl
        have HNO := hide (unrec_left HLF.out (fun e => hpe (HPK.out.symm.trans e)))
        clear hpe
        go_wp2
        refine bodyPost_ret (ret_row_tmp rfl _ _ w.heap.size 39 [.int .i64 0, .string .empty, .slice none 0 0] (HX7.out.zero.setAll [.int .i64 0, .string .empty, .slice none 0 0] rfl) _ (.bool false) rfl rfl Try.underlying39 rfl (by kernel_rfl)) rfl ?_
        exact ⟨_, [], by rw [HNO.out.2], by rw [HNO.out.1]; exact (recNone HX7.out.below [.int .i64 0, .string .empty, .slice none 0 0]).1, (recNone HX7.out.below [.int .i64 0, .string .empty, .slice none 0 0]).2⟩
end Go.Proofs.Ytbjblchhenmgjaa
namespace Go.Proofs.Ytbjblchhenmgjaa
open Go.ChangeShapes Go.WideShapes Go.ChangeAt Go.RowKit

theorem rowTouch {fp : List Nat} {w w2 : World} {g : Nat} {e : TypeId} {cs : List Value} (h : Row w g e cs) (ht : Touch fp w w2) (hn : g ∉ fp) : Row w2 g e cs := (ht.block _ h.lt hn).trans h

set_option maxRecDepth 100000 in
set_option maxHeartbeats 4000000 in
theorem lawFnExactRecUnpack_any (w : World) (n0 : Int) (hn0 : (Lit.int .i64 n0).wf = true) (s1 : ByteArray) (hs1 : s1.size ≤ maxLen) :
    Calls Try.prog 4 #[.int .i64 n0, .string s1] w fun e w' => e = .returned (.bool true) ∧ Below w.heap.size w w' := by
  have B0 := hide (Below.refl w.heap.size w)
  obtain ⟨r0, hr0⟩ : ∃ r, r = unrecR n0 s1 := ⟨_, rfl⟩
  have HR0 := hide hr0
  clear hr0
  by_cases hz1 : (s1.size : Int) ≤ 1048576
  · skip
    go_enter Try.func4, Try.ntmps4
    -- boxes of the parameters
    have hcr0 : r0.cntTop ≤ 1200000 := by rw [HR0.out]; exact unrecR_cnt n0 s1
    go_wp2_with fail
    refine (specRecUnpack_any n0 s1 _ hn0 (by omega)).mono ?_
    rintro e u1 ⟨vw0, fw0, rfl, yw0, zw0, hb1⟩
    have S1 := hide (show w.heap.size ≤ u1.heap.size from by have := hb1.size; simpa only [World.size_alloc, size_setRow] using this)
    have B1 := hide (B0.out.trans (hb1.mono B0.out.size))
    clear hb1
    rw [← HR0.out] at yw0
    have Ow0 := hide yw0
    have Nw0 := hide zw0
    have Lw0 := hide (show ∀ g ∈ fw0, w.heap.size ≤ g ∧ g < u1.heap.size from fun g hg => ⟨by have := (zw0.fr g hg).1; simpa only [World.size_alloc, size_setRow] using this, zw0.lt g hg⟩)
    clear yw0 zw0
    have Tw0 := Ow0.out
    obtain ⟨w0A1, w0c1, w0f1, rfl, w0w0, w0w1, w0o1, w0ef⟩ := Tw0.oRecord
    clear Tw0 w0o1
    have hAPw0 : Below u1.heap.size u1 (u1.alloc (.cells #[.int .i64 r0.pos, .string r0.key, .slice w0A1 r0.events.length w0c1] 39)) := (Below.refl _ _).alloc (Nat.le_refl _) _
    have BPw0 := hide (B1.out.trans (hAPw0.mono B1.out.size))
    have Ow0 := hide (Ow0.out.below hAPw0 Nw0.out.lt)
    have Nw0 := hide (Nw0.out.below hAPw0 Nw0.out.lt)
    have Pw0 : Row (u1.alloc (.cells #[.int .i64 r0.pos, .string r0.key, .slice w0A1 r0.events.length w0c1] 39)) u1.heap.size 39 [.int .i64 r0.pos, .string r0.key, .slice w0A1 r0.events.length w0c1] := Row.new u1 _ _
    clear hAPw0
    have c1_Pw0_0 := Pw0.cell 0
    have c1_Pw0_1 := Pw0.cell 1
    have c1_Pw0_2 := Pw0.cell 2
    have lt1_Pw0 := Pw0.lt
    go_wp2_with fail
    refine (implRecUnpack_any n0 s1 _ hn0 (by omega)).mono ?_
    rintro e u2 ⟨vg0, fg0, rfl, yg0, zg0, hb2⟩
    clear c1_Pw0_0 c1_Pw0_1 c1_Pw0_2 lt1_Pw0
    have S2 := hide (show u1.heap.size + 1 ≤ u2.heap.size from by have := hb2.size; simpa only [World.size_alloc, size_setRow] using this)
    have B2 := hide (BPw0.out.trans (hb2.mono BPw0.out.size))
    have Pw0 := Pw0.below hb2 Pw0.lt
    have Ow0 := hide (Ow0.out.below hb2 Nw0.out.lt)
    have Nw0 := hide (Nw0.out.below hb2 Nw0.out.lt)
    clear hb2
    rw [← HR0.out] at yg0
    have Og0 := hide yg0
    have Ng0 := hide zg0
    have Lg0 := hide (show ∀ g ∈ fg0, u1.heap.size + 1 ≤ g ∧ g < u2.heap.size from fun g hg => ⟨by have := (zg0.fr g hg).1; simpa only [World.size_alloc, size_setRow] using this, zg0.lt g hg⟩)
    clear yg0 zg0
    have Tg0 := Og0.out
    obtain ⟨g0A1, g0c1, g0f1, rfl, g0w0, g0w1, g0o1, g0ef⟩ := Tg0.oRecord
    clear Tg0 g0o1
    have hAPg0 : Below u2.heap.size u2 (u2.alloc (.cells #[.int .i64 r0.pos, .string r0.key, .slice g0A1 r0.events.length g0c1] 39)) := (Below.refl _ _).alloc (Nat.le_refl _) _
    have BPg0 := hide (B2.out.trans (hAPg0.mono B2.out.size))
    have Pw0 := Pw0.below hAPg0 Pw0.lt
    have Ow0 := hide (Ow0.out.below hAPg0 Nw0.out.lt)
    have Nw0 := hide (Nw0.out.below hAPg0 Nw0.out.lt)
    have Og0 := hide (Og0.out.below hAPg0 Ng0.out.lt)
    have Ng0 := hide (Ng0.out.below hAPg0 Ng0.out.lt)
    have Pg0 : Row (u2.alloc (.cells #[.int .i64 r0.pos, .string r0.key, .slice g0A1 r0.events.length g0c1] 39)) u2.heap.size 39 [.int .i64 r0.pos, .string r0.key, .slice g0A1 r0.events.length g0c1] := Row.new u2 _ _
    clear hAPg0
    have c2_Pw0_0 := Pw0.cell 0
    have c2_Pw0_1 := Pw0.cell 1
    have c2_Pw0_2 := Pw0.cell 2
    have c2_Pg0_0 := Pg0.cell 0
    have c2_Pg0_1 := Pg0.cell 1
    have c2_Pg0_2 := Pg0.cell 2
    have lt2_Pw0 := Pw0.lt
    have lt2_Pg0 := Pg0.lt
    go_wp2_with fail
    refine (eqRecord_any r0 _ _ _ _ _ Og0.out Ow0.out Ng0.out.lt Nw0.out.lt).mono ?_
    rintro e u3 ⟨rfl, hb3⟩
    clear c2_Pw0_0 c2_Pw0_1 c2_Pw0_2 c2_Pg0_0 c2_Pg0_1 c2_Pg0_2 lt2_Pw0 lt2_Pg0
    have S3 := hide (show u2.heap.size + 1 ≤ u3.heap.size from by have := hb3.size; simpa only [World.size_alloc, size_setRow] using this)
    have B3 := hide (BPg0.out.trans (hb3.mono BPg0.out.size))
    have Pw0 := Pw0.below hb3 Pw0.lt
    have Pg0 := Pg0.below hb3 Pg0.lt
    have Ow0 := hide (Ow0.out.below hb3 Nw0.out.lt)
    have Nw0 := hide (Nw0.out.below hb3 Nw0.out.lt)
    have Og0 := hide (Og0.out.below hb3 Ng0.out.lt)
    have Ng0 := hide (Ng0.out.below hb3 Ng0.out.lt)
    clear hb3
    have c3_Pw0_0 := Pw0.cell 0
    have c3_Pw0_1 := Pw0.cell 1
    have c3_Pw0_2 := Pw0.cell 2
    have c3_Pg0_0 := Pg0.cell 0
    have c3_Pg0_1 := Pg0.cell 1
    have c3_Pg0_2 := Pg0.cell 2
    have lt3_Pw0 := Pw0.lt
    have lt3_Pg0 := Pg0.lt
    go_wp2_with fail
    refine (markRecord_any r0 _ fg0 _ _ (1) _ (by omega) Og0.out Ng0.out (by omega)).mono ?_
    rintro e u4 ⟨lg0, rfl, og0, kg0, ht4⟩
    clear c3_Pw0_0 c3_Pw0_1 c3_Pw0_2 c3_Pg0_0 c3_Pg0_1 c3_Pg0_2 lt3_Pw0 lt3_Pg0
    have S4 := hide (show u3.heap.size ≤ u4.heap.size from ht4.size)
    have B4 := hide (B3.out.trans (ht4.to_below B3.out.size (fun g hg => by have := Lg0.out g hg; have := S1.out; have := S2.out; have := S3.out; omega)))
    have Pw0 := rowTouch Pw0 ht4 (fun hg => by have := Lg0.out _ hg; have := S1.out; have := S2.out; have := S3.out; omega)
    have Pg0 := rowTouch Pg0 ht4 (fun hg => by have := Lg0.out _ hg; have := S1.out; have := S2.out; have := S3.out; omega)
    have Ow0 := hide (Ow0.out.touch ht4 Nw0.out.lt (fun g hg hg2 => by have := Lw0.out g hg; have := Lg0.out g hg2; have := S1.out; have := S2.out; have := S3.out; omega))
    have Nw0 := hide (ht4.new Nw0.out)
    have Og0 := hide og0
    have Ng0 := hide (ht4.new Ng0.out)
    have Kg0 := hide kg0
    clear og0 kg0 ht4
    have c4_Pw0_0 := Pw0.cell 0
    have c4_Pw0_1 := Pw0.cell 1
    have c4_Pw0_2 := Pw0.cell 2
    have c4_Pg0_0 := Pg0.cell 0
    have c4_Pg0_1 := Pg0.cell 1
    have c4_Pg0_2 := Pg0.cell 2
    have lt4_Pw0 := Pw0.lt
    have lt4_Pg0 := Pg0.lt
    go_wp2_with fail
    refine (heldRecord_any lg0 _ fg0 _ (1) (1 + r0.cntTop) _ (by omega) Og0.out Ng0.out.lt Kg0.out (by omega)).mono ?_
    rintro e u5 ⟨rfl, hb5⟩
    clear c4_Pw0_0 c4_Pw0_1 c4_Pw0_2 c4_Pg0_0 c4_Pg0_1 c4_Pg0_2 lt4_Pw0 lt4_Pg0
    have S5 := hide (show u4.heap.size ≤ u5.heap.size from by have := hb5.size; simpa only [World.size_alloc, size_setRow] using this)
    have B5 := hide (B4.out.trans (hb5.mono B4.out.size))
    have Pw0 := Pw0.below hb5 Pw0.lt
    have Pg0 := Pg0.below hb5 Pg0.lt
    have Ow0 := hide (Ow0.out.below hb5 Nw0.out.lt)
    have Nw0 := hide (Nw0.out.below hb5 Nw0.out.lt)
    have Og0 := hide (Og0.out.below hb5 Ng0.out.lt)
    have Ng0 := hide (Ng0.out.below hb5 Ng0.out.lt)
    clear hb5
    have c5_Pw0_0 := Pw0.cell 0
    have c5_Pw0_1 := Pw0.cell 1
    have c5_Pw0_2 := Pw0.cell 2
    have c5_Pg0_0 := Pg0.cell 0
    have c5_Pg0_1 := Pg0.cell 1
    have c5_Pg0_2 := Pg0.cell 2
    have lt5_Pw0 := Pw0.lt
    have lt5_Pg0 := Pg0.lt
    go_wp2_with fail
    refine (implRecUnpack_any n0 s1 _ hn0 (by omega)).mono ?_
    rintro e u6 ⟨vh0, fh0, rfl, yh0, zh0, hb6⟩
    clear c5_Pw0_0 c5_Pw0_1 c5_Pw0_2 c5_Pg0_0 c5_Pg0_1 c5_Pg0_2 lt5_Pw0 lt5_Pg0
    have S6 := hide (show u5.heap.size ≤ u6.heap.size from by have := hb6.size; simpa only [World.size_alloc, size_setRow] using this)
    have B6 := hide (B5.out.trans (hb6.mono B5.out.size))
    have Pw0 := Pw0.below hb6 Pw0.lt
    have Pg0 := Pg0.below hb6 Pg0.lt
    have Ow0 := hide (Ow0.out.below hb6 Nw0.out.lt)
    have Nw0 := hide (Nw0.out.below hb6 Nw0.out.lt)
    have Og0 := hide (Og0.out.below hb6 Ng0.out.lt)
    have Ng0 := hide (Ng0.out.below hb6 Ng0.out.lt)
    clear hb6
    rw [← HR0.out] at yh0
    have Oh0 := hide yh0
    have Nh0 := hide zh0
    have Lh0 := hide (show ∀ g ∈ fh0, u5.heap.size ≤ g ∧ g < u6.heap.size from fun g hg => ⟨by have := (zh0.fr g hg).1; simpa only [World.size_alloc, size_setRow] using this, zh0.lt g hg⟩)
    clear yh0 zh0
    have Th0 := Oh0.out
    obtain ⟨h0A1, h0c1, h0f1, rfl, h0w0, h0w1, h0o1, h0ef⟩ := Th0.oRecord
    clear Th0 h0o1
    have hAPh0 : Below u6.heap.size u6 (u6.alloc (.cells #[.int .i64 r0.pos, .string r0.key, .slice h0A1 r0.events.length h0c1] 39)) := (Below.refl _ _).alloc (Nat.le_refl _) _
    have BPh0 := hide (B6.out.trans (hAPh0.mono B6.out.size))
    have Pw0 := Pw0.below hAPh0 Pw0.lt
    have Pg0 := Pg0.below hAPh0 Pg0.lt
    have Ow0 := hide (Ow0.out.below hAPh0 Nw0.out.lt)
    have Nw0 := hide (Nw0.out.below hAPh0 Nw0.out.lt)
    have Og0 := hide (Og0.out.below hAPh0 Ng0.out.lt)
    have Ng0 := hide (Ng0.out.below hAPh0 Ng0.out.lt)
    have Oh0 := hide (Oh0.out.below hAPh0 Nh0.out.lt)
    have Nh0 := hide (Nh0.out.below hAPh0 Nh0.out.lt)
    have Ph0 : Row (u6.alloc (.cells #[.int .i64 r0.pos, .string r0.key, .slice h0A1 r0.events.length h0c1] 39)) u6.heap.size 39 [.int .i64 r0.pos, .string r0.key, .slice h0A1 r0.events.length h0c1] := Row.new u6 _ _
    clear hAPh0
    have c6_Pw0_0 := Pw0.cell 0
    have c6_Pw0_1 := Pw0.cell 1
    have c6_Pw0_2 := Pw0.cell 2
    have c6_Pg0_0 := Pg0.cell 0
    have c6_Pg0_1 := Pg0.cell 1
    have c6_Pg0_2 := Pg0.cell 2
    have c6_Ph0_0 := Ph0.cell 0
    have c6_Ph0_1 := Ph0.cell 1
    have c6_Ph0_2 := Ph0.cell 2
    have lt6_Pw0 := Pw0.lt
    have lt6_Pg0 := Pg0.lt
    have lt6_Ph0 := Ph0.lt
    go_wp2_with fail
    refine (eqRecord_any r0 _ _ _ _ _ Oh0.out Ow0.out Nh0.out.lt Nw0.out.lt).mono ?_
    rintro e u7 ⟨rfl, hb7⟩
    clear c6_Pw0_0 c6_Pw0_1 c6_Pw0_2 c6_Pg0_0 c6_Pg0_1 c6_Pg0_2 c6_Ph0_0 c6_Ph0_1 c6_Ph0_2 lt6_Pw0 lt6_Pg0 lt6_Ph0
    have S7 := hide (show u6.heap.size + 1 ≤ u7.heap.size from by have := hb7.size; simpa only [World.size_alloc, size_setRow] using this)
    have B7 := hide (BPh0.out.trans (hb7.mono BPh0.out.size))
    have Pw0 := Pw0.below hb7 Pw0.lt
    have Pg0 := Pg0.below hb7 Pg0.lt
    have Ph0 := Ph0.below hb7 Ph0.lt
    have Ow0 := hide (Ow0.out.below hb7 Nw0.out.lt)
    have Nw0 := hide (Nw0.out.below hb7 Nw0.out.lt)
    have Og0 := hide (Og0.out.below hb7 Ng0.out.lt)
    have Ng0 := hide (Ng0.out.below hb7 Ng0.out.lt)
    have Oh0 := hide (Oh0.out.below hb7 Nh0.out.lt)
    have Nh0 := hide (Nh0.out.below hb7 Nh0.out.lt)
    clear hb7
    have c7_Pw0_0 := Pw0.cell 0
    have c7_Pw0_1 := Pw0.cell 1
    have c7_Pw0_2 := Pw0.cell 2
    have c7_Pg0_0 := Pg0.cell 0
    have c7_Pg0_1 := Pg0.cell 1
    have c7_Pg0_2 := Pg0.cell 2
    have c7_Ph0_0 := Ph0.cell 0
    have c7_Ph0_1 := Ph0.cell 1
    have c7_Ph0_2 := Ph0.cell 2
    have lt7_Pw0 := Pw0.lt
    have lt7_Pg0 := Pg0.lt
    have lt7_Ph0 := Ph0.lt
    go_wp2_with fail
    refine (heldRecord_any lg0 _ fg0 _ (1) (1 + r0.cntTop) _ (by omega) Og0.out Ng0.out.lt Kg0.out (by omega)).mono ?_
    rintro e u8 ⟨rfl, hb8⟩
    clear c7_Pw0_0 c7_Pw0_1 c7_Pw0_2 c7_Pg0_0 c7_Pg0_1 c7_Pg0_2 c7_Ph0_0 c7_Ph0_1 c7_Ph0_2 lt7_Pw0 lt7_Pg0 lt7_Ph0
    have S8 := hide (show u7.heap.size ≤ u8.heap.size from by have := hb8.size; simpa only [World.size_alloc, size_setRow] using this)
    have B8 := hide (B7.out.trans (hb8.mono B7.out.size))
    have Pw0 := Pw0.below hb8 Pw0.lt
    have Pg0 := Pg0.below hb8 Pg0.lt
    have Ph0 := Ph0.below hb8 Ph0.lt
    have Ow0 := hide (Ow0.out.below hb8 Nw0.out.lt)
    have Nw0 := hide (Nw0.out.below hb8 Nw0.out.lt)
    have Og0 := hide (Og0.out.below hb8 Ng0.out.lt)
    have Ng0 := hide (Ng0.out.below hb8 Ng0.out.lt)
    have Oh0 := hide (Oh0.out.below hb8 Nh0.out.lt)
    have Nh0 := hide (Nh0.out.below hb8 Nh0.out.lt)
    clear hb8
    have c8_Pw0_0 := Pw0.cell 0
    have c8_Pw0_1 := Pw0.cell 1
    have c8_Pw0_2 := Pw0.cell 2
    have c8_Pg0_0 := Pg0.cell 0
    have c8_Pg0_1 := Pg0.cell 1
    have c8_Pg0_2 := Pg0.cell 2
    have c8_Ph0_0 := Ph0.cell 0
    have c8_Ph0_1 := Ph0.cell 1
    have c8_Ph0_2 := Ph0.cell 2
    have lt8_Pw0 := Pw0.lt
    have lt8_Pg0 := Pg0.lt
    have lt8_Ph0 := Ph0.lt
    go_wp2_with fail
    go_ret
    exact ⟨rfl, B8.out⟩
  · have hz1' : (1048576 : Int) < s1.size := by omega
    go_enter Try.func4, Try.ntmps4
    go_wp2
    go_ret
    exact ⟨rfl, B0.out⟩
end Go.Proofs.Ytbjblchhenmgjaa
