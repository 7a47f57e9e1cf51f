/-
  KindFits: the program's and the reference's answer alike.
-/
import Derived.Test.YtdingkbggjehoaaFitW
import Derived.Test.YtdingkbggjehoaaFitI
import Derived.Test.YtdingkbggjehoaaKindOk2
set_option linter.unusedVariables false
set_option linter.unusedSimpArgs false
namespace Go.Proofs.Ytdingkbggjehoaa
open Go.ChangeShapes Go.WideShapes Go.ChangeAt Go.RowKit

set_option maxRecDepth 100000 in
theorem implKindFits_any (fr : Kind) (us : List Value) (fp : List Nat) (tk : Kind) (vs : List Value) (fq : List Nat) (w : World) (hk : OwC w fr.cells us fp) (hf : Lt fp w.heap.size) (hbk : fr.bulk ≤ 1048576) (ht : OwC w tk.cells vs fq) (hg : Lt fq w.heap.size) (hbt : tk.bulk ≤ 1048576) :
    Calls Try.prog 18 #[.agg us.toArray, .agg vs.toArray] w fun e w' => e = .returned (.bool (tb (fr.ok ∧ tk.ok ∧ tk.fit fr))) ∧ Below w.heap.size w w' := by
  have HK := hide hk
  have HT := hide ht
  obtain ⟨A1, c1, A2, c2, f1, f2, rfl, w0, o1, o2, rfl⟩ := hk.oKind
  obtain ⟨B1, d1, B2, d2, q1, q2, rfl, v0, x1, x2, rfl⟩ := ht.oKind
  clear hk ht o1 o2 x1 x2
  have hw1 : Below w.heap.size w ((w.alloc (.cells #[.int .i64 fr.sort, .slice A1 fr.names.length c1, .slice A2 fr.kids.length c2] 30)).alloc (.cells #[.int .i64 tk.sort, .slice B1 tk.names.length d1, .slice B2 tk.kids.length d2] 30)) := ((Below.refl w.heap.size w).alloc (Nat.le_refl _) _).alloc (by simp) _
  have RK : Row ((w.alloc (.cells #[.int .i64 fr.sort, .slice A1 fr.names.length c1, .slice A2 fr.kids.length c2] 30)).alloc (.cells #[.int .i64 tk.sort, .slice B1 tk.names.length d1, .slice B2 tk.kids.length d2] 30)) w.heap.size 30 [.int .i64 fr.sort, .slice A1 fr.names.length c1, .slice A2 fr.kids.length c2] := (Row.new w _ _).alloc _
  have RT : Row ((w.alloc (.cells #[.int .i64 fr.sort, .slice A1 fr.names.length c1, .slice A2 fr.kids.length c2] 30)).alloc (.cells #[.int .i64 tk.sort, .slice B1 tk.names.length d1, .slice B2 tk.kids.length d2] 30)) (w.heap.size + 1) 30 [.int .i64 tk.sort, .slice B1 tk.names.length d1, .slice B2 tk.kids.length d2] := by
    have h := Row.new (w.alloc (.cells #[.int .i64 fr.sort, .slice A1 fr.names.length c1, .slice A2 fr.kids.length c2] 30)) 30 [.int .i64 tk.sort, .slice B1 tk.names.length d1, .slice B2 tk.kids.length d2]
    rw [World.size_alloc] at h
    exact h
  have B0 := hide hw1
  clear hw1
  go_enter Try.func18, Try.ntmps18
  go_wp2_with fail
  refine (implKindOk_any fr _ _ _ (HK.out.below B0.out hf) (hf.up B0.out) hbk).mono ?_
  rintro e w2 ⟨rfl, hb2⟩
  have BB2 := hide (B0.out.trans (hb2.mono B0.out.size))
  have RK2 := RK.below hb2 RK.lt
  have RT2 := RT.below hb2 RT.lt
  clear RK RT hb2
  have lk := RK2.lt
  have lt := RT2.lt
  have t0 := RT2.cell 0
  have t1 := RT2.cell 1
  have t2 := RT2.cell 2
  by_cases hk : fr.ok
  · rw [tb_true hk]
    have HK1 := hide hk
    clear hk
    go_wp2_with fail
    refine (implKindOk_any tk _ _ _ (HT.out.below BB2.out hg) (hg.up BB2.out) hbt).mono ?_
    rintro e w3 ⟨rfl, hb3⟩
    have BB3 := hide (BB2.out.trans (hb3.mono BB2.out.size))
    have RK3 := RK2.below hb3 lk
    have RT3 := RT2.below hb3 lt
    clear RK2 RT2 hb3 lk lt t0 t1 t2
    have lk := RK3.lt
    have lt := RT3.lt
    have k0 := RK3.cell 0
    have k1 := RK3.cell 1
    have k2 := RK3.cell 2
    have t0 := RT3.cell 0
    have t1 := RT3.cell 1
    have t2 := RT3.cell 2
    by_cases ht : tk.ok
    · rw [tb_true ht]
      have HT1 := hide ht
      have HE := hide (show tb (fr.ok ∧ tk.ok ∧ tk.fit fr) = tb (tk.fit fr) from congrArg tb (propext ⟨fun h => h.2.2, fun h => ⟨HK1.out, ht, h⟩⟩))
      clear ht
      go_wp2_with fail
      refine (fitI_any tk fr _ _ _ _ 1 1 _ (HK.out.below BB3.out hf) (HT.out.below BB3.out hg) (hf.up BB3.out) (hg.up BB3.out) hbk hbt HK1.out.1 HT1.out.1).mono ?_
      rintro e w4 ⟨rfl, hb4⟩
      go_wp2
      go_ret
      exact ⟨ret_bool HE.out.symm, BB3.out.trans (hb4.mono BB3.out.size)⟩
    · rw [tb_false ht]
      have HE := hide (tb_false (p := fr.ok ∧ tk.ok ∧ tk.fit fr) (fun h => ht h.2.1))
      clear ht
      go_wp2
      go_ret
      exact ⟨ret_bool HE.out.symm, BB3.out⟩
  · rw [tb_false hk]
    have HE := hide (tb_false (p := fr.ok ∧ tk.ok ∧ tk.fit fr) (fun h => hk h.1))
    clear hk
    go_wp2
    go_ret
    exact ⟨ret_bool HE.out.symm, BB2.out⟩

set_option maxRecDepth 100000 in
theorem specKindFits_any (fr : Kind) (us : List Value) (fp : List Nat) (tk : Kind) (vs : List Value) (fq : List Nat) (w : World) (hk : OwC w fr.cells us fp) (hf : Lt fp w.heap.size) (hbk : fr.bulk ≤ 1048576) (ht : OwC w tk.cells vs fq) (hg : Lt fq w.heap.size) (hbt : tk.bulk ≤ 1048576) :
    Calls Try.prog 16 #[.agg us.toArray, .agg vs.toArray] w fun e w' => e = .returned (.bool (tb (fr.ok ∧ tk.ok ∧ tk.fit fr))) ∧ Below w.heap.size w w' := by
  have HK := hide hk
  have HT := hide ht
  obtain ⟨A1, c1, A2, c2, f1, f2, rfl, w0, o1, o2, rfl⟩ := hk.oKind
  obtain ⟨B1, d1, B2, d2, q1, q2, rfl, v0, x1, x2, rfl⟩ := ht.oKind
  clear hk ht o1 o2 x1 x2
  have hw1 : Below w.heap.size w ((w.alloc (.cells #[.int .i64 fr.sort, .slice A1 fr.names.length c1, .slice A2 fr.kids.length c2] 30)).alloc (.cells #[.int .i64 tk.sort, .slice B1 tk.names.length d1, .slice B2 tk.kids.length d2] 30)) := ((Below.refl w.heap.size w).alloc (Nat.le_refl _) _).alloc (by simp) _
  have RK : Row ((w.alloc (.cells #[.int .i64 fr.sort, .slice A1 fr.names.length c1, .slice A2 fr.kids.length c2] 30)).alloc (.cells #[.int .i64 tk.sort, .slice B1 tk.names.length d1, .slice B2 tk.kids.length d2] 30)) w.heap.size 30 [.int .i64 fr.sort, .slice A1 fr.names.length c1, .slice A2 fr.kids.length c2] := (Row.new w _ _).alloc _
  have RT : Row ((w.alloc (.cells #[.int .i64 fr.sort, .slice A1 fr.names.length c1, .slice A2 fr.kids.length c2] 30)).alloc (.cells #[.int .i64 tk.sort, .slice B1 tk.names.length d1, .slice B2 tk.kids.length d2] 30)) (w.heap.size + 1) 30 [.int .i64 tk.sort, .slice B1 tk.names.length d1, .slice B2 tk.kids.length d2] := by
    have h := Row.new (w.alloc (.cells #[.int .i64 fr.sort, .slice A1 fr.names.length c1, .slice A2 fr.kids.length c2] 30)) 30 [.int .i64 tk.sort, .slice B1 tk.names.length d1, .slice B2 tk.kids.length d2]
    rw [World.size_alloc] at h
    exact h
  have B0 := hide hw1
  clear hw1
  go_enter Try.func16, Try.ntmps16
  go_wp2_with fail
  refine (specKindOk_any fr _ _ _ (HK.out.below B0.out hf) (hf.up B0.out) hbk).mono ?_
  rintro e w2 ⟨rfl, hb2⟩
  have BB2 := hide (B0.out.trans (hb2.mono B0.out.size))
  have RK2 := RK.below hb2 RK.lt
  have RT2 := RT.below hb2 RT.lt
  clear RK RT hb2
  have lk := RK2.lt
  have lt := RT2.lt
  have t0 := RT2.cell 0
  have t1 := RT2.cell 1
  have t2 := RT2.cell 2
  by_cases hk : fr.ok
  · rw [tb_true hk]
    have HK1 := hide hk
    clear hk
    go_wp2_with fail
    refine (specKindOk_any tk _ _ _ (HT.out.below BB2.out hg) (hg.up BB2.out) hbt).mono ?_
    rintro e w3 ⟨rfl, hb3⟩
    have BB3 := hide (BB2.out.trans (hb3.mono BB2.out.size))
    have RK3 := RK2.below hb3 lk
    have RT3 := RT2.below hb3 lt
    clear RK2 RT2 hb3 lk lt t0 t1 t2
    have lk := RK3.lt
    have lt := RT3.lt
    have k0 := RK3.cell 0
    have k1 := RK3.cell 1
    have k2 := RK3.cell 2
    have t0 := RT3.cell 0
    have t1 := RT3.cell 1
    have t2 := RT3.cell 2
    by_cases ht : tk.ok
    · rw [tb_true ht]
      have HT1 := hide ht
      have HE := hide (show tb (fr.ok ∧ tk.ok ∧ tk.fit fr) = tb (tk.fit fr) from congrArg tb (propext ⟨fun h => h.2.2, fun h => ⟨HK1.out, ht, h⟩⟩))
      clear ht
      go_wp2_with fail
      refine (fitW_any tk fr _ _ _ _ 1 1 _ (HK.out.below BB3.out hf) (HT.out.below BB3.out hg) (hf.up BB3.out) (hg.up BB3.out) hbk hbt HK1.out.1 HT1.out.1).mono ?_
      rintro e w4 ⟨rfl, hb4⟩
      go_wp2
      go_ret
      exact ⟨ret_bool HE.out.symm, BB3.out.trans (hb4.mono BB3.out.size)⟩
    · rw [tb_false ht]
      have HE := hide (tb_false (p := fr.ok ∧ tk.ok ∧ tk.fit fr) (fun h => ht h.2.1))
      clear ht
      go_wp2
      go_ret
      exact ⟨ret_bool HE.out.symm, BB3.out⟩
  · rw [tb_false hk]
    have HE := hide (tb_false (p := fr.ok ∧ tk.ok ∧ tk.fit fr) (fun h => hk h.1))
    clear hk
    go_wp2
    go_ret
    exact ⟨ret_bool HE.out.symm, BB2.out⟩
end Go.Proofs.Ytdingkbggjehoaa
