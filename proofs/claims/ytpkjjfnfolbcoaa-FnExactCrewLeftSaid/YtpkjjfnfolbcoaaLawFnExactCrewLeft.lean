/-
  FnExactCrewLeft returns true for every input: the program answers as the reference. No condition.
-/
import Derived.Test.YtpkjjfnfolbcoaaCrewI8
import Derived.Test.YtpkjjfnfolbcoaaToCW
import Derived.Deep.RegionHeld
import Derived.Laws.CopyOwn
import Derived.Laws.Tables
set_option linter.unusedVariables false
set_option linter.unusedSimpArgs false
namespace Go.Proofs.Ytpkjjfnfolbcoaa
open Go.ChangeShapes Go.WideShapes Go.ChangeAt Go.RowKit

theorem info_L_crew : (Try.prog.info? 25).map (·.size) = some 18 := by kernel_rfl
theorem got_bulk {x : CrewWorld} (h : x.bulk ≤ 1048576) : x.got.length ≤ 1048576 := by rw [CrewWorld.bulk_eq] at h; omega
theorem below_row {w0 w : World} {g : Nat} {cs : Array Value} (h : Below w0.heap.size w0 w) (hg : w0.heap.size ≤ g) : Below w0.heap.size w0 (w.setRow g cs) :=
  h.trans (below_of_grown (setRow_grown (grown_refl w (some g)) cs) hg h.size)
set_option maxRecDepth 100000 in
set_option maxHeartbeats 4000000 in
theorem lawFnExactCrewLeft_any (w : World) (x : CrewWorld) (us : List Value) (fp : List Nat) (ho : OwC w x.cells us fp) (hl : Lt fp w.heap.size) :
    Calls Try.prog 5 #[.agg us.toArray] w fun e w' => e = .returned (.bool true) ∧ Below w.heap.size w w' := by
  have hus : us.length = 18 := by rw [ho.length, CrewWorld.cells_len]
  have HI := hide (show (Try.prog.info? 25).map (·.size) = some us.toArray.size ∧ us.toArray.all (·.oneCell') = true from ⟨by rw [List.size_toArray, hus]; exact info_L_crew, Array.all_eq_true_iff_forall_mem.2 (fun v hv => OwC.cell1 _ ho v (by simpa using hv))⟩)
  have HO := hide ho
  have HL := hide hl
  clear ho hl hus
  go_enter Try.func5, Try.ntmps5
  go_upto_region 1 with fail
  generalize hw1 : w.alloc _ = w1
  have hb1 : Below w.heap.size w w1 := by rw [← hw1]; exact (Below.refl _ _).alloc (Nat.le_refl _) _
  have HP := hide (show Row w1 w.heap.size 25 us from by rw [← hw1]; exact Row.new w _ _)
  have HB := hide hb1
  have HO1 := hide (HO.out.below hb1 HL.out)
  have HL1 := hide (HL.out.up hb1)
  clear hw1 hb1 HO HL
  have pl := HP.out.lt
  have HSZ := hide (szCrewWorld_any x us fp 1048576 w1 HO1.out HL1.out (by omega) (by omega))
  go_wp2_with (first | (refine wpList_load_row rfl 25 _ rfl (w.heap.size) rfl 25 us.toArray (0, 0) _ HP.out Try.underlying25 rfl HI.out.1 ?_) | fail)
  refine HSZ.out.mono ?_
  rintro e w2 ⟨rfl, hb2⟩
  have HP2 := hide (HP.out.below hb2 HP.out.lt)
  have HB2 := hide (HB.out.trans (hb2.mono HB.out.size))
  have HO2 := hide (HO1.out.below hb2 HL1.out)
  have HL2 := hide (HL1.out.up hb2)
  clear hb2 HP HB HO1 HL1 HSZ pl
  by_cases hbk : x.bulk ≤ 1048576
  rotate_left
  · have hz : szr 1048576 ((x.bulk : Nat) : Int) = -1 := szr_no (by omega)
    rw [hz]
    clear hz hbk
    go_wp2
    go_ret
    exact ⟨rfl, HB2.out⟩
  have hz : szr 1048576 ((x.bulk : Nat) : Int) = 1048576 - ((x.bulk : Nat) : Int) := szr_yes (by omega)
  obtain ⟨z, hz2⟩ : ∃ z : Int, z = 1048576 - ((x.bulk : Nat) : Int) := ⟨_, rfl⟩
  rw [hz, ← hz2]
  have hz0 : 0 ≤ z := by omega
  have HBK := hide hbk
  have HGL := hide (got_bulk hbk)
  clear hz hz2 hbk
  have pl := HP2.out.lt
  have HT := hide (toCrewWorld_any x us fp w2 HO2.out HL2.out HBK.out)
  go_wp2_with (first | (refine wpList_load_row rfl 25 _ rfl (w.heap.size) rfl 25 us.toArray (0, 0) _ HP2.out Try.underlying25 rfl HI.out.1 ?_) | fail)
  refine HT.out.mono ?_
  rintro e w3 ⟨va, fa, rfl, ya, na, hb3⟩
  have HP3 := hide (HP2.out.below hb3 HP2.out.lt)
  have HB3 := hide (HB2.out.trans (hb3.mono HB2.out.size))
  have HO3 := hide (HO2.out.below hb3 HL2.out)
  have HL3 := hide (HL2.out.up hb3)
  have HYA := hide ya
  have HNA := hide na.lt
  clear hb3 HP2 HB2 HO2 HL2 HT pl ya na
  have HC := hide (specCrewLeft_any x va fa w3 HYA.out HNA.out HGL.out)
  go_wp2_with fail
  refine HC.out.mono ?_
  rintro e w4 ⟨rfl, hb4⟩
  have HP4 := hide (HP3.out.below hb4 HP3.out.lt)
  have HB4 := hide (HB3.out.trans (hb4.mono HB3.out.size))
  have HO4 := hide (HO3.out.below hb4 HL3.out)
  have HL4 := hide (HL3.out.up hb4)
  clear hb4 HP3 HB3 HO3 HL3 HC HYA HNA
  have pl := HP4.out.lt
  have HT := hide (toCrewWorld_any x us fp w4 HO4.out HL4.out HBK.out)
  go_wp2_with (first | (refine wpList_load_row rfl 25 _ rfl (w.heap.size) rfl 25 us.toArray (0, 0) _ HP4.out Try.underlying25 rfl HI.out.1 ?_) | fail)
  refine HT.out.mono ?_
  rintro e w5 ⟨vb, fb, rfl, yb, nb, hb5⟩
  have HP5 := hide (HP4.out.below hb5 HP4.out.lt)
  have HB5 := hide (HB4.out.trans (hb5.mono HB4.out.size))
  have HO5 := hide (HO4.out.below hb5 HL4.out)
  have HL5 := hide (HL4.out.up hb5)
  have HYB := hide yb
  have HNB := hide nb.lt
  have hlb : vb.length = 18 := by rw [yb.length, CrewWorld.cells_len]
  have HIB := hide (show zeroCells.toArray.size = vb.toArray.size ∧ (Try.prog.info? 30).map (·.size) = some vb.toArray.size ∧ vb.toArray.all (·.oneCell') = true from ⟨by rw [List.size_toArray, List.size_toArray, hlb]; rfl, by rw [List.size_toArray, hlb]; kernel_rfl, Array.all_eq_true_iff_forall_mem.2 (fun v hv => OwC.cell1 _ yb v (by simpa using hv))⟩)
  have HZ := hide (show Row (w5.alloc (.cells zeroCells.toArray 30)) w5.heap.size 30 zeroCells from Row.new w5 _ _)
  have hbA : Below w5.heap.size w5 ((w5.alloc (.cells zeroCells.toArray 30)).setRow w5.heap.size vb.toArray) := below_row ((Below.refl _ _).alloc (Nat.le_refl _) _) (Nat.le_refl _)
  have HPB := hide (show Row ((w5.alloc (.cells zeroCells.toArray 30)).setRow w5.heap.size vb.toArray) w5.heap.size 30 vb from Row.setRow' HZ.out vb)
  have HBA := hide hbA
  clear hb5 HP4 HB4 HO4 HL4 HT pl yb nb hlb hbA
  obtain ⟨w6, hw6⟩ : ∃ W, W = (w5.alloc (.cells zeroCells.toArray 30)).setRow w5.heap.size vb.toArray := ⟨_, rfl⟩
  have HC := hide (implCrewLeft_any x vb fb w6 (by rw [hw6]; exact HYB.out.below HBA.out HNB.out) (by rw [hw6]; exact HNB.out.up HBA.out) HGL.out)
  have HP6 := hide (show Row w6 w.heap.size 25 us from by rw [hw6]; exact HP5.out.below HBA.out HP5.out.lt)
  have HB6 := hide (show Below w.heap.size w w6 from by rw [hw6]; exact HB5.out.trans (HBA.out.mono HB5.out.size))
  have HO6 := hide (show OwC w6 x.cells us fp from by rw [hw6]; exact HO5.out.below HBA.out HL5.out)
  have HL6 := hide (show Lt fp w6.heap.size from by rw [hw6]; exact HL5.out.up HBA.out)
  have HY6 := hide (show OwC w6 x.cells vb fb from by rw [hw6]; exact HYB.out.below HBA.out HNB.out)
  have HN6 := hide (show Lt fb w6.heap.size from by rw [hw6]; exact HNB.out.up HBA.out)
  have HQ6 := hide (show Row w6 w5.heap.size 30 vb from by rw [hw6]; exact HPB.out)
  have HQL := hide (show w.heap.size ≤ w5.heap.size from HB5.out.size)
  rw [hw6] at HC
  have HC6 := hide hw6
  clear HP5 HB5 HO5 HL5 HYB HNB HBA
  have ql : w5.heap.size < ((w5.alloc (.cells zeroCells.toArray 30)).setRow w5.heap.size vb.toArray).heap.size := HPB.out.lt
  go_wp2_with (first | (refine wpList_store_row rfl 30 _ _ rfl w5.heap.size vb.toArray rfl rfl 30 zeroCells.toArray HZ.out HIB.out.2.1 HIB.out.1 HIB.out.2.2 ?_) | (refine wpList_load_row rfl 30 _ rfl (w5.heap.size) rfl 30 vb.toArray (0, 0) _ HPB.out Try.underlying30 rfl HIB.out.2.1 ?_) | fail)
  refine HC.out.mono ?_
  rintro e w7 ⟨rfl, hb7⟩
  rw [← hw6] at hb7
  have HP7 := hide (HP6.out.below hb7 HP6.out.lt)
  have HB7 := hide (HB6.out.trans (hb7.mono HB6.out.size))
  have HO7 := hide (HO6.out.below hb7 HL6.out)
  have HL7 := hide (HL6.out.up hb7)
  have HY7 := hide (HY6.out.below hb7 HN6.out)
  have HN7 := hide (HN6.out.up hb7)
  have HQ7 := hide (HQ6.out.below hb7 HQ6.out.lt)
  clear hb7 HP6 HB6 HO6 HL6 HY6 HN6 HQ6 HC ql hw6 HC6 HZ HPB
  go_upto_region 10 with fail
  go_wp2_with fail
  refine wp_region_held_drew (S := fun W => Below w7.heap.size w7 W) (by kernel_rfl) (below_drewN (Below.refl _ _) 1) (fun hS0 => ?_)
  refine wpAnyH_take (i := 0) (v := .agg vb.toArray) rfl (by kernel_rfl) (by kernel_rfl) (by kernel_rfl) (fun _ _ _ h => h) (Or.inl ⟨by rfl, fun W hS => run_loadOp_row (HQ7.out.below hS HQ7.out.lt) 30 rfl rfl Try.underlying30 rfl HIB.out.2.1⟩) hS0 ?_
  refine wpAnyH_take (i := 1) (v := .agg us.toArray) rfl (by kernel_rfl) (by kernel_rfl) (by kernel_rfl) (fun _ _ _ h => h) (Or.inl ⟨by rfl, fun W hS => run_loadOp_row (HP7.out.below hS HP7.out.lt) 25 rfl rfl Try.underlying25 rfl HI.out.1⟩) hS0 ?_
  refine wpAnyH_ready (rs := [2]) (by kernel_rfl) (by simp) ?_
  refine AllReadyH.cons rfl (fun K hK => ?_) AllReadyH.nil
  go_simp
  go_at_call 14
  refine (toCrewWorld_any x us fp _ (HO7.out.below hS0 HL7.out) (HL7.out.up hS0) HBK.out).mono ?_
  rintro e w8 ⟨vc, fc, rfl, yc, nc, hb8⟩
  have hS1 := hS0.trans (hb8.mono hS0.size)
  try go_simp
  refine hK.out _ _ hS1 (fun hHeld => ?_)
  clear hK K
  refine wpAnyH_ready (rs := [3]) (by kernel_rfl) (by simp) ?_
  refine AllReadyH.cons rfl (fun K hK => ?_) AllReadyH.nil
  go_simp
  go_at_call 16
  refine (eqCrewWorld_any x vb vc fb fc w8 (HY7.out.below hS1 HN7.out) yc (HN7.out.up hS1) nc.lt).mono ?_
  rintro e w9 ⟨rfl, hb9⟩
  have hS2 := hS1.trans (hb9.mono hS1.size)
  try go_simp
  refine hK.out _ _ hS2 (fun hHeld => ?_)
  clear hK K
  refine wpAnyH_take (i := 4) (v := .bool false) rfl (by kernel_rfl) (by kernel_rfl) (by kernel_rfl) (fun _ _ _ h => h) (Or.inl ⟨by rfl, by (intro W hS; go_simp; first | done | with_reducible rfl | rfl)⟩) hS2 ?_
  refine wpAnyH_done (by kernel_rfl) ?_ _
  go_wp2
  go_ret
  exact ⟨rfl, HB7.out.trans (hS2.mono HB7.out.size)⟩
end Go.Proofs.Ytpkjjfnfolbcoaa
