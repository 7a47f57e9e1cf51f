/-
  FnCrewStart returns true for every input: at the beginning a world is ok, and nothing has ended in it. No condition.
-/
import Derived.Test.YtpkjjfnfolbcoaaLwWorld
import Derived.Test.YtpkjjfnfolbcoaaDrawStart
import Derived.Test.YtpkjjfnfolbcoaaToCW
import Derived.Test.YtpkjjfnfolbcoaaStartLaw
import Derived.Test.YtpkjjfnfolbcoaaStartI
import Derived.Test.YtpkjjfnfolbcoaaStartW
import Derived.Laws.CopyOwn
import Derived.Laws.Tables
set_option linter.unusedVariables false
set_option linter.unusedSimpArgs false
namespace Go.Proofs.Ytpkjjfnfolbcoaa
open Go.ChangeShapes Go.WideShapes Go.ChangeAt Go.RowKit

section
variable {P : Program} {ops : Array Oper} {rest : List Oper} {o : Oper} {a : Act} {w : World} {Q : Exit → Act → World → Prop}
/-- a value is moved, and behind it two whole rows are loaded, where the guard asks for them -/
theorem wpl_move_load_load {o1 o2 o3 : Oper} (h1 : o1.guard = none) (x1 : Operand) (v1 : Value) (ho1 : o1.op = .move x1) (hv1 : a.eval x1 = v1) (hw : Region.wanted o2 (yielded ops (a.put o1.dst v1).tmps) = true) (ty : TypeId) (x : Operand) (ho : o2.op = .load ty x)
    (g : Nat) (hx : (a.put o1.dst v1).eval x = .pointer (some ⟨g, 0, none⟩)) (t : TypeId) (cs : Array Value) (fr : Nat × Nat) (d : TypeDesc) (hg : w.heap[g]? = some (.cells cs t fr))
    (hu : P.underlying ty = some d) (hd : (match d with | .struct _ | .array _ _ => true | _ => false) = true) (hi : (P.info? ty).map (·.size) = some cs.size)
    (hw3 : Region.wanted o3 (yielded ops ((a.put o1.dst v1).put o2.dst (.agg cs)).tmps) = true) (y : Operand) (ho3 : o3.op = .load ty y)
    (g3 : Nat) (hy : ((a.put o1.dst v1).put o2.dst (.agg cs)).eval y = .pointer (some ⟨g3, 0, none⟩)) (t3 : TypeId) (cs3 : Array Value) (fr3 : Nat × Nat) (hg3 : w.heap[g3]? = some (.cells cs3 t3 fr3)) (hi3 : (P.info? ty).map (·.size) = some cs3.size)
    (h : wpList P ops Q rest (((a.put o1.dst v1).put o2.dst (.agg cs)).put o3.dst (.agg cs3)) w) : wpList P ops Q (o1 :: o2 :: o3 :: rest) a w :=
  wpl_move_load_row h1 x1 v1 ho1 hv1 hw ty x ho g hx t cs fr d hg hu hd hi (wpl_load_row_g hw3 ty y ho3 g3 hy t3 cs3 fr3 d hg3 hu hd hi3 h)
end
theorem info18 {P : Program} {x : CrewWorld} {us : List Value} {fp : List Nat} {w : World} (ho : OwC w x.cells us fp) : us.length = 18 := by rw [ho.length, CrewWorld.cells_len]
set_option maxRecDepth 100000 in
set_option maxHeartbeats 8000000 in
theorem lawFnCrewStart_any (w : World) (x0 : List UInt8) (A0 : Option Addr) (m0 c0 : Nat) (fp0 : List Nat) (ho0 : Ow w (.s 1 (x0).length ((x0).flatMap byteC)) (.slice A0 m0 c0) fp0) (hl0 : Lt fp0 w.heap.size) :
    Calls Try.prog 6 #[.slice A0 m0 c0] w fun e w' => e = .returned (.bool true) ∧ Below w.heap.size w w' := by
  obtain ⟨rfl, hc0, hm0⟩ := ho0.nlen
  have HO0 := hide ho0
  have HB := hide (Below.refl w.heap.size w)
  clear ho0
  by_cases hz0 : (x0.length : Int) ≤ 1048576
  rotate_left
  · have hz' : (1048576 : Int) < x0.length := by omega
    go_enter Try.func6, Try.ntmps6
    go_wp2
    go_ret
    exact ⟨rfl, HB.out⟩
  have HD := hide (drawCrewStart_any x0 A0 _ c0 fp0 w HO0.out hl0 (by omega))
  go_enter Try.func6, Try.ntmps6
  go_wp2_with fail
  refine HD.out.mono ?_
  rintro e w3 ⟨a, b, c, rfl, hba, hbb, hbc, hb3⟩
  have HB3 := hide hb3
  have hwa : (Lit.int .i64 a).wf = true := WalkArith.wf_i64 ⟨by omega, by omega⟩
  have hwb : (Lit.int .i64 b).wf = true := WalkArith.wf_i64 ⟨by omega, by omega⟩
  have hwc : (Lit.int .i64 c).wf = true := WalkArith.wf_i64 ⟨by omega, by omega⟩
  obtain ⟨x, hx⟩ : ∃ x, x = startOf a b c := ⟨_, rfl⟩
  have HXE := hide hx
  have HS := hide (specCrewStart_any a b c w3 hwa hwb hwc)
  clear hb3 HD HO0 HB
  go_wp2_with fail
  refine HS.out.mono ?_
  rintro e w4 ⟨us, fs, rfl, hos, hns, hb4⟩
  rw [← hx] at hos
  have hl4 := info18 (P := Try.prog) hos
  have HI4 := hide (show zeroCells.toArray.size = us.toArray.size ∧ (Try.prog.info? 30).map (·.size) = some us.toArray.size ∧ us.toArray.all (·.oneCell') = true from ⟨by rw [List.size_toArray, List.size_toArray, hl4]; rfl, by rw [List.size_toArray, hl4]; kernel_rfl, Array.all_eq_true_iff_forall_mem.2 (fun v hv => OwC.cell1 _ hos v (by simpa using hv))⟩)
  have HZ4 := hide (show Row (w4.alloc (.cells zeroCells.toArray 30)) w4.heap.size 30 zeroCells from Row.new w4 _ _)
  have hbA : Below w4.heap.size w4 ((w4.alloc (.cells zeroCells.toArray 30)).setRow w4.heap.size us.toArray) := below_setRow7 ((Below.refl _ _).alloc (Nat.le_refl _) _) (Nat.le_refl _) _
  obtain ⟨w5, hw5⟩ : ∃ W, W = (w4.alloc (.cells zeroCells.toArray 30)).setRow w4.heap.size us.toArray := ⟨_, rfl⟩
  rw [← hw5] at hbA
  have HB5 := hide (HB3.out.trans ((hb4.trans (hbA.mono hb4.size)).mono HB3.out.size))
  have HP5 := hide (show Row w5 w4.heap.size 30 us from by rw [hw5]; exact Row.setRow' HZ4.out us)
  have HO5 := hide (hos.below hbA hns.lt)
  have HN5 := hide (hns.lt.up hbA)
  have HC := hide (implCrewStart_any a b c w5 hwa hwb hwc)
  have HW5 := hide hw5
  rw [hw5] at HC
  clear hb4 hos hns hl4 hbA hw5 HS HB3
  go_wp2_with (first | (refine wpList_store_row rfl 30 _ _ rfl w4.heap.size us.toArray rfl rfl 30 zeroCells.toArray HZ4.out HI4.out.2.1 HI4.out.1 HI4.out.2.2 ?_) | fail)
  refine HC.out.mono ?_
  rintro e w6 ⟨ug, fg, rfl, hog, hng, hb6⟩
  rw [← HW5.out] at hb6 hng
  rw [← hx] at hog
  have hl6 := info18 (P := Try.prog) hog
  have HI6 := hide (show zeroCells.toArray.size = ug.toArray.size ∧ (Try.prog.info? 30).map (·.size) = some ug.toArray.size ∧ ug.toArray.all (·.oneCell') = true from ⟨by rw [List.size_toArray, List.size_toArray, hl6]; rfl, by rw [List.size_toArray, hl6]; kernel_rfl, Array.all_eq_true_iff_forall_mem.2 (fun v hv => OwC.cell1 _ hog v (by simpa using hv))⟩)
  have HZ6 := hide (show Row (w6.alloc (.cells zeroCells.toArray 30)) w6.heap.size 30 zeroCells from Row.new w6 _ _)
  have hbA : Below w6.heap.size w6 ((w6.alloc (.cells zeroCells.toArray 30)).setRow w6.heap.size ug.toArray) := below_setRow7 ((Below.refl _ _).alloc (Nat.le_refl _) _) (Nat.le_refl _) _
  obtain ⟨w7, hw7⟩ : ∃ W, W = (w6.alloc (.cells zeroCells.toArray 30)).setRow w6.heap.size ug.toArray := ⟨_, rfl⟩
  rw [← hw7] at hbA
  have hb57 := hb6.trans (hbA.mono hb6.size)
  have HB7 := hide (HB5.out.trans (hb57.mono HB5.out.size))
  have HP7 := hide (HP5.out.below hb57 HP5.out.lt)
  have HO7 := hide (HO5.out.below hb57 HN5.out)
  have HN7 := hide (HN5.out.up hb57)
  have HG7 := hide (show Row w7 w6.heap.size 30 ug from by rw [hw7]; exact Row.setRow' HZ6.out ug)
  have HH7 := hide (hog.below hbA hng.lt)
  have HM7 := hide (hng.lt.up hbA)
  have HW7 := hide hw7
  clear hb6 hog hng hl6 hbA hb57 HC HP5 HB5 HO5 HN5 HW5 HZ4
  have HGS := hide (show Row ((w6.alloc (.cells zeroCells.toArray 30)).setRow w6.heap.size ug.toArray) w6.heap.size 30 ug from by rw [← HW7.out]; exact HG7.out)
  have HPS := hide (show Row ((w6.alloc (.cells zeroCells.toArray 30)).setRow w6.heap.size ug.toArray) w4.heap.size 30 us from by rw [← HW7.out]; exact HP7.out)
  have HLW := hide (show Calls Try.prog 24 #[.agg ug.toArray, .agg us.toArray] ((w6.alloc (.cells zeroCells.toArray 30)).setRow w6.heap.size ug.toArray) (fun e w' => e = .returned (.bool true) ∧ Below w7.heap.size w7 w') from by
    rw [← HW7.out]
    exact lwWorld_same x ug us fg fs w7 HH7.out HO7.out HM7.out HN7.out)
  clear hw7
  have hgs : w6.heap.size < ((w6.alloc (.cells zeroCells.toArray 30)).setRow w6.heap.size ug.toArray).heap.size := HGS.out.lt
  have hps : w4.heap.size < ((w6.alloc (.cells zeroCells.toArray 30)).setRow w6.heap.size ug.toArray).heap.size := HPS.out.lt
  by_cases hok : crewOk a b c
  · rw [tb_true hok]
    have hx2 : x = crewAt a b c := by rw [hx]; exact startOf_yes hok
    have HGL := hide (show x.got.length ≤ 1048576 from by rw [hx2]; show 0 ≤ 1048576; omega)
    have tok : tb x.ok = true := tb_true (by rw [hx2]; exact start_ok hok)
    have ten : tb x.ended = false := tb_false (by rw [hx2]; exact start_ended a b c)
    have tlf : x.leftOf = 11 * a + b + 6 := by rw [hx2]; exact start_leftOf hok
    have HOKC := hide (fun (W : World) (hb : Below w7.heap.size w7 W) => show Calls Try.prog 15 #[.agg ug.toArray] W (fun e w' => e = .returned (.bool true) ∧ Below W.heap.size W w') from by
      have h := implCrewOk_any x ug fg W (HH7.out.below hb HM7.out) (HM7.out.up hb) HGL.out
      rw [tok] at h
      exact h)
    have HENC := hide (fun (W : World) (hb : Below w7.heap.size w7 W) => show Calls Try.prog 18 #[.agg ug.toArray] W (fun e w' => e = .returned (.bool false) ∧ Below W.heap.size W w') from by
      have h := implCrewEnded_any x ug fg W (HH7.out.below hb HM7.out) (HM7.out.up hb) HGL.out
      rw [ten] at h
      exact h)
    have HLFC := hide (fun (W : World) (hb : Below w7.heap.size w7 W) => show Calls Try.prog 20 #[.agg ug.toArray] W (fun e w' => e = .returned (.int .i64 (11 * a + b + 6)) ∧ Below W.heap.size W w') from by
      have h := implCrewLeft_any x ug fg W (HH7.out.below hb HM7.out) (HM7.out.up hb) HGL.out
      rw [tlf] at h
      exact h)
    have v2 : IntKind.i64.wrap (11 * a) = 11 * a := wrapI _ (by omega) (by omega)
    have v3 : IntKind.i64.wrap (11 * a + b) = 11 * a + b := wrapI _ (by omega) (by omega)
    have v4 : IntKind.i64.wrap (11 * a + b + 6) = 11 * a + b + 6 := wrapI _ (by omega) (by omega)
    have v2' : wrap64 (11 * a) = 11 * a := by unfold wrap64; omega
    have v3' : wrap64 (11 * a + b) = 11 * a + b := by unfold wrap64; omega
    have v4' : wrap64 (11 * a + b + 6) = 11 * a + b + 6 := by unfold wrap64; omega
    clear hx hx2 tok ten tlf hok
    go_upto_region 6 with (first | (refine wpList_store_row rfl 30 _ _ rfl w6.heap.size ug.toArray rfl rfl 30 zeroCells.toArray HZ6.out HI6.out.2.1 HI6.out.1 HI6.out.2.2 ?_) | fail)
    iterate 10 go_step
    refine wpl_move_load_load rfl _ _ rfl rfl (by kernel_rfl) 30 _ rfl (w6.heap.size) rfl 30 ug.toArray (0, 0) _ HGS.out Try.underlying30 rfl HI6.out.2.1 (by kernel_rfl) _ rfl (w4.heap.size) rfl 30 us.toArray (0, 0) HPS.out HI4.out.2.1 ?_
    go_upto_region 10 with (first | (go_at_call 24; refine HLW.out.mono ?_; rintro e v0 ⟨rfl, hq0⟩) | fail)
    have HG8 := hide (HG7.out.below hq0 HG7.out.lt)
    go_step
    refine wpList_load_row rfl 30 _ rfl (w6.heap.size) rfl 30 ug.toArray (0, 0) _ HG8.out Try.underlying30 rfl HI6.out.2.1 ?_
    go_step
    go_simp
    go_at_call 15
    refine (HOKC.out _ hq0).mono ?_
    rintro e v1 ⟨rfl, hq1⟩
    have hz1 := hq0.trans (hq1.mono hq0.size)
    have HG9 := hide (HG7.out.below hz1 HG7.out.lt)
    go_simp
    go_step
    refine wpl_move_load_row rfl _ _ rfl rfl (by kernel_rfl) 30 _ rfl (w6.heap.size) rfl 30 ug.toArray (0, 0) _ HG9.out Try.underlying30 rfl HI6.out.2.1 ?_
    go_step
    go_simp
    go_at_call 18
    refine (HENC.out _ hz1).mono ?_
    rintro e v2 ⟨rfl, hq2⟩
    have hz2 := hz1.trans (hq2.mono hz1.size)
    have HGA := hide (HG7.out.below hz2 HG7.out.lt)
    go_simp
    iterate 6 go_step
    refine wpl_move_load_row rfl _ _ rfl rfl (by kernel_rfl) 30 _ rfl (w6.heap.size) rfl 30 ug.toArray (0, 0) _ HGA.out Try.underlying30 rfl HI6.out.2.1 ?_
    go_step
    go_simp
    go_at_call 20
    refine (HLFC.out _ hz2).mono ?_
    rintro e v3 ⟨rfl, hq3⟩
    have hz3 := hz2.trans (hq3.mono hz2.size)
    go_simp
    go_step
    go_wp2
    go_ret
    exact ⟨rfl, HB7.out.trans (hz3.mono HB7.out.size)⟩
  · rw [tb_false hok]
    have hx2 : x = CrewWorld.none_ := by rw [hx]; exact startOf_no hok
    have HGL := hide (show x.got.length ≤ 1048576 from by rw [hx2]; show 0 ≤ 1048576; omega)
    have tok : tb x.ok = false := tb_false (by rw [hx2]; exact none_ok)
    have HOKC := hide (fun (W : World) (hb : Below w7.heap.size w7 W) => show Calls Try.prog 15 #[.agg ug.toArray] W (fun e w' => e = .returned (.bool false) ∧ Below W.heap.size W w') from by
      have h := implCrewOk_any x ug fg W (HH7.out.below hb HM7.out) (HM7.out.up hb) HGL.out
      rw [tok] at h
      exact h)
    clear hx hx2 tok hok
    go_upto_region 6 with (first | (refine wpList_store_row rfl 30 _ _ rfl w6.heap.size ug.toArray rfl rfl 30 zeroCells.toArray HZ6.out HI6.out.2.1 HI6.out.1 HI6.out.2.2 ?_) | fail)
    iterate 10 go_step
    refine wpl_move_load_load rfl _ _ rfl rfl (by kernel_rfl) 30 _ rfl (w6.heap.size) rfl 30 ug.toArray (0, 0) _ HGS.out Try.underlying30 rfl HI6.out.2.1 (by kernel_rfl) _ rfl (w4.heap.size) rfl 30 us.toArray (0, 0) HPS.out HI4.out.2.1 ?_
    go_upto_region 9 with (first | (go_at_call 24; refine HLW.out.mono ?_; rintro e v0 ⟨rfl, hq0⟩) | fail)
    have HG8 := hide (HG7.out.below hq0 HG7.out.lt)
    go_wp2_with (first | (refine wpList_load_row rfl 30 _ rfl (w6.heap.size) rfl 30 ug.toArray (0, 0) _ HG8.out Try.underlying30 rfl HI6.out.2.1 ?_) | (go_at_call 15; refine (HOKC.out _ hq0).mono ?_; rintro e v1 ⟨rfl, hq1⟩; have hz1 := hq0.trans (hq1.mono hq0.size)) | fail)
    go_ret
    exact ⟨rfl, HB7.out.trans (hz1.mono HB7.out.size)⟩
end Go.Proofs.Ytpkjjfnfolbcoaa
