/-
  An event as text: both sides.
-/
import Derived.Deep.RegionHeld3
import Derived.Deep.Cut
import Derived.Test.YtnaecdoeldoipaaGreatDoorQEventOk
import Derived.Test.YtnaecdoeldoipaaGreatDoorQTreeTS
import Derived.Test.YtnaecdoeldoipaaGreatDoorQTreeTI
set_option linter.unusedVariables false
set_option linter.unusedSimpArgs false
namespace Go.Proofs.YtnaecdoeldoipaaGreatDoor
open Go.ChangeShapes Go.WideShapes Go.ChangeAt Go.RowKit

def Event.wr (x : Event) : ByteArray := x.type_ ++ ⟨#[64]⟩ ++ dec x.version ++ x.body.wr
noncomputable def Event.write (x : Event) : ByteArray := if tb x.ok = true then x.wr else .empty
set_option maxRecDepth 100000 in
set_option maxHeartbeats 4000000 in
theorem specEventWrite_any (x : Event) (us : List Value) (fp : List Nat) (w : World) (ho : OwC w x.cells us fp) (hf : Lt fp w.heap.size) (hbk : x.bulk ≤ 1048576) :
    Calls Tryz.prog 35 #[.agg us.toArray] w fun e w' => e = .returned (.string x.write) ∧ Below w.heap.size w w' := by
  have HHO := hide ho
  obtain ⟨A1, c1, A2, c2, f1, f2, rfl, w0, w1, w2, w3_, w4_, o1, o2, rfl⟩ := ho.oEvent
  have hw1 : Below w.heap.size w (w.alloc (.cells #[.string x.type_, .int .i64 x.version, .int .i64 x.body.sort, .int .i64 x.body.num, .string x.body.text, .slice A1 x.body.names.length c1, .slice A2 x.body.kids.length c2] 46)) := (Below.refl _ _).alloc (Nat.le_refl _) _
  have R1 : Row (w.alloc (.cells #[.string x.type_, .int .i64 x.version, .int .i64 x.body.sort, .int .i64 x.body.num, .string x.body.text, .slice A1 x.body.names.length c1, .slice A2 x.body.kids.length c2] 46)) w.heap.size 46 [.string x.type_, .int .i64 x.version, .int .i64 x.body.sort, .int .i64 x.body.num, .string x.body.text, .slice A1 x.body.names.length c1, .slice A2 x.body.kids.length c2] := Row.new w _ _
  have HO := hide (HHO.out.below hw1 hf)
  have HF := hide (hf.up hw1)
  have HR := hide R1
  have HB := hide hw1
  have HC := hide (specEventOk_any x _ _ _ HO.out HF.out hbk)
  have hbkk : x.body.bulk ≤ 1048576 := by have := x.bulk_eq; omega
  clear ho o1 o2 hw1 R1 HHO
  go_enter Tryz.func35, Tryz.ntmps35
  go_wp2_with fail
  refine HC.out.mono ?_
  rintro e w3 ⟨rfl, hb3⟩
  have HO3 := hide (HO.out.below hb3 HF.out)
  have HF3 := hide (HF.out.up hb3)
  have HB3 := hide (HB.out.trans (hb3.mono HB.out.size))
  have HRW := hide (HR.out.below hb3 HR.out.lt)
  clear hb3 HC HO HF HB HR
  by_cases hok : x.ok
  rotate_left
  · have HZ := hide (show x.write = .empty from by unfold Event.write; rw [if_neg (by rw [tb_false hok]; simp)])
    rw [tb_false hok]
    clear hok
    go_wp2
    go_ret
    exact ⟨ret_str HZ.out.symm, HB3.out⟩
  have HZ := hide (show x.write = x.wr from by unfold Event.write; rw [if_pos (tb_true hok)])
  rw [tb_true hok]
  have hv := hok.2.1
  have hn : x.type_.size ≤ 8 := hok.1.2.1
  have hbg := hok.2.2.2.1
  have hbp : x.body.parts ≤ 120 := by have := hok.2.2.2.2; omega
  have HBG := hide hbg
  clear hok
  have hd := dec_size x.version (by omega) (by omega)
  have hs1 := Tree.wr_size x.body 1 hbg
  have n1 : ¬ (9223372036854775807 < x.type_.size + 1) := by omega
  have n2 : ¬ (9223372036854775807 < x.type_.size + 1 + (dec x.version).size) := by omega
  have n3 : ¬ (9223372036854775807 < x.type_.size + 1 + (dec x.version).size + x.body.wr.size) := by omega
  have HSS := hide (fun (W : World) (hb : Below w3.heap.size w3 W) => show W.cell? ⟨w.heap.size, 0, none⟩ = some (.string x.type_) ∧ W.cell? ⟨w.heap.size, 1, none⟩ = some (.int .i64 x.version) ∧ W.cell? ⟨w.heap.size, 2, none⟩ = some (.int .i64 x.body.sort) ∧ W.cell? ⟨w.heap.size, 3, none⟩ = some (.int .i64 x.body.num) ∧ W.cell? ⟨w.heap.size, 4, none⟩ = some (.string x.body.text) ∧ W.cell? ⟨w.heap.size, 5, none⟩ = some (.slice A1 x.body.names.length c1) ∧ W.cell? ⟨w.heap.size, 6, none⟩ = some (.slice A2 x.body.kids.length c2) from
    ⟨(HRW.out.below hb HRW.out.lt).cell 0, (HRW.out.below hb HRW.out.lt).cell 1, (HRW.out.below hb HRW.out.lt).cell 2, (HRW.out.below hb HRW.out.lt).cell 3, (HRW.out.below hb HRW.out.lt).cell 4, (HRW.out.below hb HRW.out.lt).cell 5, (HRW.out.below hb HRW.out.lt).cell 6⟩)
  have HDC := hide (fun (W : World) (hb : Below w3.heap.size w3 W) => specDecZ_any x.version (by omega) (by omega) W)
  have HTX := hide (fun (W : World) (hb : Below w3.heap.size w3 W) => show Calls Tryz.prog 43 #[.agg ([.int .i64 x.body.sort, .int .i64 x.body.num, .string x.body.text, .slice A1 x.body.names.length c1, .slice A2 x.body.kids.length c2] : List Value).toArray] W (fun e w' => e = .returned (.string x.body.wr) ∧ Below W.heap.size W w') from textTree_any x.body _ _ 1 W (HO3.out.oBody.below hb HF3.out) (HF3.out.up hb) hbkk HBG.out hbp)
  have HE := hide (show x.wr = x.type_ ++ ⟨#[64]⟩ ++ dec x.version ++ x.body.wr from rfl)
  generalize dec x.version = d1 at *
  generalize x.body.wr = d2 at *
  clear hd hs1 hbg
  have hbr : Below w3.heap.size w3 w3.drew := below_drewN (Below.refl _ _) 1
  go_wp2_with fail
  go_region_held3 (fun W => W.cell? ⟨w.heap.size, 0, none⟩ = some (.string x.type_) ∧ W.cell? ⟨w.heap.size, 1, none⟩ = some (.int .i64 x.version) ∧ W.cell? ⟨w.heap.size, 2, none⟩ = some (.int .i64 x.body.sort) ∧ W.cell? ⟨w.heap.size, 3, none⟩ = some (.int .i64 x.body.num) ∧ W.cell? ⟨w.heap.size, 4, none⟩ = some (.string x.body.text) ∧ W.cell? ⟨w.heap.size, 5, none⟩ = some (.slice A1 x.body.names.length c1) ∧ W.cell? ⟨w.heap.size, 6, none⟩ = some (.slice A2 x.body.kids.length c2))
    (first | exact HSS.out _ hBC | exact HSS.out _ hBB | exact HSS.out _ hbr)
    (first
      | (have hM := hBB; go_at_call 43; refine (HTX.out _ hBB).mono ?_; rintro e wc ⟨rfl, hbc⟩; have hBC := hBB.trans (hbc.mono hBB.size); clear hbc)
      | (go_at_call 83; refine (HDC.out _ hbr).mono ?_; rintro e wb ⟨rfl, hbb⟩; have hBB := hbr.trans (hbb.mono hbr.size); clear hbb))
  all_goals
    go_wp2
    go_ret
    exact ⟨ret_str (by rw [HZ.out, HE.out]), HB3.out.trans (hBC.mono HB3.out.size)⟩
set_option maxRecDepth 100000 in
set_option maxHeartbeats 4000000 in
theorem eventText_any (x : Event) (us : List Value) (fp : List Nat) (w : World) (ho : OwC w x.cells us fp) (hf : Lt fp w.heap.size) (hbkk : x.body.bulk ≤ 1048576) (ht : Tab w) (hok : x.ok) :
    Calls Tryz.prog 80 #[.agg us.toArray] w fun e w' => e = .returned (.string x.wr) ∧ Below w.heap.size w w' := by
  have HHO := hide ho
  obtain ⟨A1, c1, A2, c2, f1, f2, rfl, w0, w1, w2, w3_, w4_, o1, o2, rfl⟩ := ho.oEvent
  have hw1 : Below w.heap.size w (w.alloc (.cells #[.string x.type_, .int .i64 x.version, .int .i64 x.body.sort, .int .i64 x.body.num, .string x.body.text, .slice A1 x.body.names.length c1, .slice A2 x.body.kids.length c2] 46)) := (Below.refl _ _).alloc (Nat.le_refl _) _
  have R1 : Row (w.alloc (.cells #[.string x.type_, .int .i64 x.version, .int .i64 x.body.sort, .int .i64 x.body.num, .string x.body.text, .slice A1 x.body.names.length c1, .slice A2 x.body.kids.length c2] 46)) w.heap.size 46 [.string x.type_, .int .i64 x.version, .int .i64 x.body.sort, .int .i64 x.body.num, .string x.body.text, .slice A1 x.body.names.length c1, .slice A2 x.body.kids.length c2] := Row.new w _ _
  have HO3 := hide (HHO.out.below hw1 hf)
  have HF3 := hide (hf.up hw1)
  have HRW := hide R1
  have HB3 := hide hw1
  have HT3 := hide (ht.below hw1)
  have hv := hok.2.1
  have hn : x.type_.size ≤ 8 := hok.1.2.1
  have hbg := hok.2.2.2.1
  have hbp : x.body.parts ≤ 120 := by have := hok.2.2.2.2; omega
  have HBG := hide hbg
  clear ho o1 o2 hw1 R1 HHO hok ht
  go_enter Tryz.func80, Tryz.ntmps80
  go_upto_region 1 with fail
  generalize w.alloc _ = w3 at HO3 HF3 HRW HB3 HT3 ⊢
  have hd := dec_size x.version (by omega) (by omega)
  have hs1 := Tree.wr_size x.body 1 hbg
  have n1 : ¬ (9223372036854775807 < x.type_.size + 1) := by omega
  have n2 : ¬ (9223372036854775807 < x.type_.size + 1 + (dec x.version).size) := by omega
  have n3 : ¬ (9223372036854775807 < x.type_.size + 1 + (dec x.version).size + x.body.wr.size) := by omega
  have HSS := hide (fun (W : World) (hb : Below w3.heap.size w3 W) => show W.cell? ⟨w.heap.size, 0, none⟩ = some (.string x.type_) ∧ W.cell? ⟨w.heap.size, 1, none⟩ = some (.int .i64 x.version) ∧ W.cell? ⟨w.heap.size, 2, none⟩ = some (.int .i64 x.body.sort) ∧ W.cell? ⟨w.heap.size, 3, none⟩ = some (.int .i64 x.body.num) ∧ W.cell? ⟨w.heap.size, 4, none⟩ = some (.string x.body.text) ∧ W.cell? ⟨w.heap.size, 5, none⟩ = some (.slice A1 x.body.names.length c1) ∧ W.cell? ⟨w.heap.size, 6, none⟩ = some (.slice A2 x.body.kids.length c2) from
    ⟨(HRW.out.below hb HRW.out.lt).cell 0, (HRW.out.below hb HRW.out.lt).cell 1, (HRW.out.below hb HRW.out.lt).cell 2, (HRW.out.below hb HRW.out.lt).cell 3, (HRW.out.below hb HRW.out.lt).cell 4, (HRW.out.below hb HRW.out.lt).cell 5, (HRW.out.below hb HRW.out.lt).cell 6⟩)
  have HDC := hide (fun (W : World) (hb : Below w3.heap.size w3 W) => itoa_any x.version (by omega) (by omega) W (HT3.out.below hb))
  have HTX := hide (fun (W : World) (hb : Below w3.heap.size w3 W) => show Calls Tryz.prog 45 #[.agg ([.int .i64 x.body.sort, .int .i64 x.body.num, .string x.body.text, .slice A1 x.body.names.length c1, .slice A2 x.body.kids.length c2] : List Value).toArray] W (fun e w' => e = .returned (.string x.body.wr) ∧ Below W.heap.size W w') from treeText_any x.body _ _ 1 W (HO3.out.oBody.below hb HF3.out) (HF3.out.up hb) hbkk (HT3.out.below hb) HBG.out hbp)
  have HE := hide (show x.wr = x.type_ ++ ⟨#[64]⟩ ++ dec x.version ++ x.body.wr from rfl)
  generalize dec x.version = d1 at *
  generalize x.body.wr = d2 at *
  clear hd hs1 hbg
  have hbr : Below w3.heap.size w3 w3.drew := below_drewN (Below.refl _ _) 1
  go_wp2_with fail
  go_region_held3 (fun W => W.cell? ⟨w.heap.size, 0, none⟩ = some (.string x.type_) ∧ W.cell? ⟨w.heap.size, 1, none⟩ = some (.int .i64 x.version) ∧ W.cell? ⟨w.heap.size, 2, none⟩ = some (.int .i64 x.body.sort) ∧ W.cell? ⟨w.heap.size, 3, none⟩ = some (.int .i64 x.body.num) ∧ W.cell? ⟨w.heap.size, 4, none⟩ = some (.string x.body.text) ∧ W.cell? ⟨w.heap.size, 5, none⟩ = some (.slice A1 x.body.names.length c1) ∧ W.cell? ⟨w.heap.size, 6, none⟩ = some (.slice A2 x.body.kids.length c2))
    (first | exact HSS.out _ hBC | exact HSS.out _ hBB | exact HSS.out _ hbr)
    (first
      | (have hM := hBB; go_at_call 45; refine (HTX.out _ hBB).mono ?_; rintro e wc ⟨rfl, hbc⟩; have hBC := hBB.trans (hbc.mono hBB.size); clear hbc)
      | (go_at_call 119; refine (HDC.out _ hbr).mono ?_; rintro e wb ⟨rfl, hbb⟩; have hBB := hbr.trans (hbb.mono hbr.size); clear hbb))
  all_goals
    go_wp2
    go_ret
    exact ⟨ret_str (by rw [HE.out]), HB3.out.trans (hBC.mono HB3.out.size)⟩
set_option maxRecDepth 100000 in
set_option maxHeartbeats 4000000 in
theorem implEventWrite_any (x : Event) (us : List Value) (fp : List Nat) (w : World) (ho : OwC w x.cells us fp) (hf : Lt fp w.heap.size) (hbk : x.bulk ≤ 1048576) (ht : Tab w) :
    Calls Tryz.prog 33 #[.agg us.toArray] w fun e w' => e = .returned (.string x.write) ∧ Below w.heap.size w w' := by
  have HHO := hide ho
  obtain ⟨A1, c1, A2, c2, f1, f2, rfl, w0, w1, w2, w3_, w4_, o1, o2, rfl⟩ := ho.oEvent
  have hw1 : Below w.heap.size w (w.alloc (.cells #[.string x.type_, .int .i64 x.version, .int .i64 x.body.sort, .int .i64 x.body.num, .string x.body.text, .slice A1 x.body.names.length c1, .slice A2 x.body.kids.length c2] 46)) := (Below.refl _ _).alloc (Nat.le_refl _) _
  have R1 : Row (w.alloc (.cells #[.string x.type_, .int .i64 x.version, .int .i64 x.body.sort, .int .i64 x.body.num, .string x.body.text, .slice A1 x.body.names.length c1, .slice A2 x.body.kids.length c2] 46)) w.heap.size 46 [.string x.type_, .int .i64 x.version, .int .i64 x.body.sort, .int .i64 x.body.num, .string x.body.text, .slice A1 x.body.names.length c1, .slice A2 x.body.kids.length c2] := Row.new w _ _
  have HO := hide (HHO.out.below hw1 hf)
  have HF := hide (hf.up hw1)
  have HR := hide R1
  have HB := hide hw1
  have HC := hide (implEventOk_any x _ _ _ HO.out HF.out hbk)
  have hbkk : x.body.bulk ≤ 1048576 := by have := x.bulk_eq; omega
  have HT := hide (ht.below hw1)
  clear ho o1 o2 hw1 R1 HHO
  go_enter Tryz.func33, Tryz.ntmps33
  go_wp2_with fail
  refine HC.out.mono ?_
  rintro e w3 ⟨rfl, hb3⟩
  have HO3 := hide (HO.out.below hb3 HF.out)
  have HF3 := hide (HF.out.up hb3)
  have HB3 := hide (HB.out.trans (hb3.mono HB.out.size))
  have HRW := hide (HR.out.below hb3 HR.out.lt)
  have HT3 := hide (HT.out.below hb3)
  clear hb3 HC HO HF HB HR
  by_cases hok : x.ok
  rotate_left
  · have HZ := hide (show x.write = .empty from by unfold Event.write; rw [if_neg (by rw [tb_false hok]; simp)])
    rw [tb_false hok]
    clear hok
    go_wp2
    go_ret
    exact ⟨ret_str HZ.out.symm, HB3.out⟩
  have HZ := hide (show x.write = x.wr from by unfold Event.write; rw [if_pos (tb_true hok)])
  rw [tb_true hok]
  have HP := hide (eventText_any x _ _ w3 HO3.out HF3.out hbkk HT3.out hok)
  clear hok
  have m0 := HRW.out.cell 0
  have m1 := HRW.out.cell 1
  have m2 := HRW.out.cell 2
  have m3 := HRW.out.cell 3
  have m4 := HRW.out.cell 4
  have m5 := HRW.out.cell 5
  have m6 := HRW.out.cell 6
  have ml := HRW.out.lt
  go_wp2_with fail
  refine HP.out.mono ?_
  rintro e w4 ⟨rfl, hb4⟩
  go_wp2
  go_ret
  exact ⟨ret_str HZ.out.symm, HB3.out.trans (hb4.mono HB3.out.size)⟩
end Go.Proofs.YtnaecdoeldoipaaGreatDoor
