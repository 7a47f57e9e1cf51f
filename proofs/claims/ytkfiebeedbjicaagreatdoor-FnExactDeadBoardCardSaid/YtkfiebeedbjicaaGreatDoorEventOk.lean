/-
  Events that are ok: the program's and the reference's EventOk answer alike.
-/
import Derived.Test.YtkfiebeedbjicaaGreatDoorHEvent
import Derived.Test.YtkfiebeedbjicaaGreatDoorTreeParts
set_option linter.unusedVariables false
set_option linter.unusedSimpArgs false
namespace Go.Proofs.YtkfiebeedbjicaaGreatDoor
open Go.ChangeShapes Go.WideShapes Go.ChangeAt Go.RowKit

def Event.ok (x : Event) : Prop := NameOk x.type_ ∧ (1 ≤ x.version ∧ x.version ≤ 12) ∧ x.body.sort = 5 ∧ x.body.ok
theorem OwC.oBody {w : World} {x : Event} {A1 A2 : Option Addr} {c1 c2 : Nat} {fp : List Nat}
    (h : OwC w x.cells [.string x.type_, .int .i64 x.version, .int .i64 x.body.sort, .int .i64 x.body.num, .string x.body.text, .slice A1 x.body.names.length c1, .slice A2 x.body.kids.length c2] fp) :
    OwC w x.body.cells [.int .i64 x.body.sort, .int .i64 x.body.num, .string x.body.text, .slice A1 x.body.names.length c1, .slice A2 x.body.kids.length c2] fp := by
  obtain ⟨_, _, _, _, _, _, e, _, _, w2, w3, w4, o1, o2, rfl⟩ := h.oEvent
  simp only [List.cons.injEq, Value.slice.injEq, and_true, true_and] at e
  obtain ⟨⟨rfl, rfl⟩, rfl, rfl⟩ := e
  exact OwC.mTree w2 w3 w4 o1 o2
theorem Event.body_bulk (x : Event) : x.body.bulk ≤ x.bulk := by rw [x.bulk_eq]; omega

set_option maxRecDepth 100000 in
theorem implEventOk_any (x : Event) (us : List Value) (fp : List Nat) (w : World) (ho : OwC w x.cells us fp) (hf : Lt fp w.heap.size) (hbk : x.bulk ≤ 1048576) :
    Calls Tryz.prog 47 #[.agg us.toArray] w fun e w' => e = .returned (.bool (tb x.ok)) ∧ Below w.heap.size w w' := by
  have ho' := ho
  obtain ⟨A1, c1, A2, c2, f1, f2, rfl, w0, w1, w2, w3, w4, o1, o2, rfl⟩ := ho.oEvent
  have hw1 : Below w.heap.size w (w.alloc (.cells #[.string x.type_, .int .i64 x.version, .int .i64 x.body.sort, .int .i64 x.body.num, .string x.body.text, .slice A1 x.body.names.length c1, .slice A2 x.body.kids.length c2] 55)) := (Below.refl _ _).alloc (Nat.le_refl _) _
  have HO := hide (ho'.oBody.below hw1 hf)
  have hf2 := (hf.mono hw1.size)
  have BB := hide hw1
  clear ho ho' o1 o2 hw1
  have hb2 : x.body.bulk ≤ 1048576 := Nat.le_trans x.body_bulk hbk
  by_cases hn : NameOk x.type_
  · by_cases hv : 1 ≤ x.version ∧ x.version ≤ 12
    · by_cases hs : x.body.sort = 5
      · have HE := hide (show x.ok ↔ x.body.ok from ⟨fun h => h.2.2.2, fun h => ⟨hn, hv, hs, h⟩⟩)
        have HN := hide (tb_true hn)
        have HV := hide (tb_true hv)
        have hb : (x.body.sort == 5) = true := by simp [hs]
        clear hn hv hs
        go_enter Tryz.func47, Tryz.ntmps47
        go_wp2_with fail
        refine (isName_any _ _ w0).mono ?_
        rintro e w' ⟨rfl, rfl⟩
        rw [HN.out]
        go_wp2_with fail
        refine (inRange_any _ _ _ _).mono ?_
        rintro e w' ⟨rfl, rfl⟩
        rw [HV.out]
        go_wp2_with fail
        refine (implTreeOk_any x.body _ _ _ HO.out hf2 hb2).mono ?_
        rintro e w3 ⟨rfl, hb3⟩
        have hk : tb x.ok = tb x.body.ok := congrArg tb (propext HE.out)
        go_wp2
        go_ret
        exact ⟨ret_bool hk.symm, BB.out.trans (hb3.mono BB.out.size)⟩
      · have HT := hide (tb_false (fun h : x.ok => hs h.2.2.1))
        have HN := hide (tb_true hn)
        have HV := hide (tb_true hv)
        have hb : (x.body.sort == 5) = false := by simp [hs]
        clear hn hv hs
        go_enter Tryz.func47, Tryz.ntmps47
        go_wp2_with fail
        refine (isName_any _ _ w0).mono ?_
        rintro e w' ⟨rfl, rfl⟩
        rw [HN.out]
        go_wp2_with fail
        refine (inRange_any _ _ _ _).mono ?_
        rintro e w' ⟨rfl, rfl⟩
        rw [HV.out]
        go_wp2
        go_ret
        exact ⟨ret_bool HT.out.symm, BB.out⟩
    · have HT := hide (tb_false (fun h : x.ok => hv h.2.1))
      have HN := hide (tb_true hn)
      have HV := hide (tb_false hv)
      clear hn hv
      go_enter Tryz.func47, Tryz.ntmps47
      go_wp2_with fail
      refine (isName_any _ _ w0).mono ?_
      rintro e w' ⟨rfl, rfl⟩
      rw [HN.out]
      go_wp2_with fail
      refine (inRange_any _ _ _ _).mono ?_
      rintro e w' ⟨rfl, rfl⟩
      rw [HV.out]
      go_wp2
      go_ret
      exact ⟨ret_bool HT.out.symm, BB.out⟩
  · have HT := hide (tb_false (fun h : x.ok => hn h.1))
    have HN := hide (tb_false hn)
    clear hn
    go_enter Tryz.func47, Tryz.ntmps47
    go_wp2_with fail
    refine (isName_any _ _ w0).mono ?_
    rintro e w' ⟨rfl, rfl⟩
    rw [HN.out]
    go_wp2
    go_ret
    exact ⟨ret_bool HT.out.symm, BB.out⟩

set_option maxRecDepth 100000 in
theorem specEventOk_any (x : Event) (us : List Value) (fp : List Nat) (w : World) (ho : OwC w x.cells us fp) (hf : Lt fp w.heap.size) (hbk : x.bulk ≤ 1048576) :
    Calls Tryz.prog 37 #[.agg us.toArray] w fun e w' => e = .returned (.bool (tb x.ok)) ∧ Below w.heap.size w w' := by
  have ho' := ho
  obtain ⟨A1, c1, A2, c2, f1, f2, rfl, w0, w1, w2, w3, w4, o1, o2, rfl⟩ := ho.oEvent
  have hw1 : Below w.heap.size w (w.alloc (.cells #[.string x.type_, .int .i64 x.version, .int .i64 x.body.sort, .int .i64 x.body.num, .string x.body.text, .slice A1 x.body.names.length c1, .slice A2 x.body.kids.length c2] 55)) := (Below.refl _ _).alloc (Nat.le_refl _) _
  have HO := hide (ho'.oBody.below hw1 hf)
  have hf2 := (hf.mono hw1.size)
  have BB := hide hw1
  clear ho ho' o1 o2 hw1
  have hb2 : x.body.bulk ≤ 1048576 := Nat.le_trans x.body_bulk hbk
  by_cases hn : NameOk x.type_
  · by_cases hv : 1 ≤ x.version ∧ x.version ≤ 12
    · by_cases hs : x.body.sort = 5
      · have HE := hide (show x.ok ↔ x.body.ok from ⟨fun h => h.2.2.2, fun h => ⟨hn, hv, hs, h⟩⟩)
        have HN := hide (tb_true hn)
        have HV := hide (tb_true hv)
        have hb : (x.body.sort == 5) = true := by simp [hs]
        clear hn hv hs
        go_enter Tryz.func37, Tryz.ntmps37
        go_wp2_with fail
        refine (l6NameOk_any _ _ w0).mono ?_
        rintro e w' ⟨rfl, rfl⟩
        rw [HN.out]
        go_wp2_with fail
        refine (l6In_any _ _ _ _).mono ?_
        rintro e w' ⟨rfl, rfl⟩
        rw [HV.out]
        go_wp2_with fail
        refine (specTreeOk_any x.body _ _ _ HO.out hf2 hb2).mono ?_
        rintro e w3 ⟨rfl, hb3⟩
        have hk : tb x.ok = tb x.body.ok := congrArg tb (propext HE.out)
        go_wp2
        go_ret
        exact ⟨ret_bool hk.symm, BB.out.trans (hb3.mono BB.out.size)⟩
      · have HT := hide (tb_false (fun h : x.ok => hs h.2.2.1))
        have HN := hide (tb_true hn)
        have HV := hide (tb_true hv)
        have hb : (x.body.sort == 5) = false := by simp [hs]
        clear hn hv hs
        go_enter Tryz.func37, Tryz.ntmps37
        go_wp2_with fail
        refine (l6NameOk_any _ _ w0).mono ?_
        rintro e w' ⟨rfl, rfl⟩
        rw [HN.out]
        go_wp2_with fail
        refine (l6In_any _ _ _ _).mono ?_
        rintro e w' ⟨rfl, rfl⟩
        rw [HV.out]
        go_wp2
        go_ret
        exact ⟨ret_bool HT.out.symm, BB.out⟩
    · have HT := hide (tb_false (fun h : x.ok => hv h.2.1))
      have HN := hide (tb_true hn)
      have HV := hide (tb_false hv)
      clear hn hv
      go_enter Tryz.func37, Tryz.ntmps37
      go_wp2_with fail
      refine (l6NameOk_any _ _ w0).mono ?_
      rintro e w' ⟨rfl, rfl⟩
      rw [HN.out]
      go_wp2_with fail
      refine (l6In_any _ _ _ _).mono ?_
      rintro e w' ⟨rfl, rfl⟩
      rw [HV.out]
      go_wp2
      go_ret
      exact ⟨ret_bool HT.out.symm, BB.out⟩
  · have HT := hide (tb_false (fun h : x.ok => hn h.1))
    have HN := hide (tb_false hn)
    clear hn
    go_enter Tryz.func37, Tryz.ntmps37
    go_wp2_with fail
    refine (l6NameOk_any _ _ w0).mono ?_
    rintro e w' ⟨rfl, rfl⟩
    rw [HN.out]
    go_wp2
    go_ret
    exact ⟨ret_bool HT.out.symm, BB.out⟩
end Go.Proofs.YtkfiebeedbjicaaGreatDoor
