/-
  FnExactCrewStart returns true for every input: the program answers as the reference. No condition.
-/
import Derived.Test.YtdingkbggjehoaaStartCnt
import Derived.Test.YtdingkbggjehoaaHCrewWorld
import Derived.Deep.RegionHeld3
import Derived.Laws.CopyOwn
set_option linter.unusedVariables false
set_option linter.unusedSimpArgs false
namespace Go.Proofs.Ytdingkbggjehoaa
open Go.ChangeShapes Go.WideShapes Go.ChangeAt Go.RowKit

theorem rowTouch {fp : List Nat} {w w2 : World} {g : Nat} {e : TypeId} {cs : List Value} (h : Row w g e cs) (ht : Touch fp w w2) (hn : g ∉ fp) : Row w2 g e cs := (ht.block _ h.lt hn).trans h

set_option maxRecDepth 100000 in
set_option maxHeartbeats 4000000 in
theorem lawFnExactCrewStart_any (w : World) (n0 : Int) (hn0 : (Lit.int .i64 n0).wf = true) (n1 : Int) (hn1 : (Lit.int .i64 n1).wf = true) (n2 : Int) (hn2 : (Lit.int .i64 n2).wf = true) :
    Calls Try.prog 6 #[.int .i64 n0, .int .i64 n1, .int .i64 n2] w fun e w' => e = .returned (.bool true) ∧ Below w.heap.size w w' := by
  have B0 := hide (Below.refl w.heap.size w)
  obtain ⟨r0, hr0⟩ : ∃ r, r = startOf n0 n1 n2 := ⟨_, rfl⟩
  have HR0 := hide hr0
  clear hr0
  go_enter Try.func6, Try.ntmps6
  -- boxes of the parameters
  have hb0 : r0.cntTop ≤ 100 := by rw [HR0.out]; exact startOf_cntTop n0 n1 n2
  go_wp2_with fail
  refine (specCrewStart_any n0 n1 n2 _ hn0 hn1 hn2).mono ?_
  rintro e u1 ⟨vw0, fw0, rfl, yw0, zw0, hb1⟩
  have S1 := hide (show w.heap.size ≤ u1.heap.size from by have := hb1.size; simpa only [World.size_alloc, size_setRow] using this)
  have B1 := hide (B0.out.trans (hb1.mono B0.out.size))
  clear hb1
  rw [← HR0.out] at yw0
  have Ow0 := hide yw0
  have Nw0 := hide zw0
  have Lw0 := hide (show ∀ g ∈ fw0, w.heap.size ≤ g ∧ g < u1.heap.size from fun g hg => ⟨by have := (zw0.fr g hg).1; simpa only [World.size_alloc, size_setRow] using this, zw0.lt g hg⟩)
  clear yw0 zw0
  have hlw0 : vw0.length = 18 := by rw [Ow0.out.length, CrewWorld.cells_len]
  have HIw0 := hide (show zeroCells.toArray.size = vw0.toArray.size ∧ (Try.prog.info? 50).map (·.size) = some vw0.toArray.size ∧ vw0.toArray.all (·.oneCell') = true from ⟨by rw [List.size_toArray, List.size_toArray, hlw0]; rfl, by rw [List.size_toArray, hlw0]; kernel_rfl, Array.all_eq_true_iff_forall_mem.2 (fun v hv => OwC.cell1 _ Ow0.out v (by simpa using hv))⟩)
  have HZw0 := hide (show Row (u1.alloc (.cells zeroCells.toArray 50)) u1.heap.size 50 zeroCells from Row.new u1 _ _)
  have hAPw0 : Below u1.heap.size u1 ((u1.alloc (.cells zeroCells.toArray 50)).setRow u1.heap.size vw0.toArray) := below_setRow ((Below.refl _ _).alloc (Nat.le_refl _) _) (Nat.le_refl _) _
  have BPw0 := hide (B1.out.trans (hAPw0.mono B1.out.size))
  have Ow0 := hide (Ow0.out.below hAPw0 Nw0.out.lt)
  have Nw0 := hide (Nw0.out.below hAPw0 Nw0.out.lt)
  have Pw0 : Row ((u1.alloc (.cells zeroCells.toArray 50)).setRow u1.heap.size vw0.toArray) u1.heap.size 50 vw0 := Row.setRow' HZw0.out vw0
  clear hAPw0 hlw0
  have lt1_Pw0 := Pw0.lt
  go_wp2_with (first | (refine wpList_store_row rfl 50 _ _ rfl u1.heap.size vw0.toArray rfl rfl 50 zeroCells.toArray HZw0.out HIw0.out.2.1 HIw0.out.1 HIw0.out.2.2 ?_) | (refine wpList_load_row rfl 50 _ rfl (u1.heap.size) rfl 50 vw0.toArray (0, 0) _ Pw0 Try.underlying50 rfl HIw0.out.2.1 ?_))
  refine (implCrewStart_any n0 n1 n2 _ hn0 hn1 hn2).mono ?_
  rintro e u2 ⟨vg0, fg0, rfl, yg0, zg0, hb2⟩
  clear lt1_Pw0
  have S2 := hide (show u1.heap.size + 1 ≤ u2.heap.size from by have := hb2.size; simpa only [World.size_alloc, size_setRow] using this)
  have B2 := hide (BPw0.out.trans (hb2.mono BPw0.out.size))
  have Pw0 := Pw0.below hb2 Pw0.lt
  have Ow0 := hide (Ow0.out.below hb2 Nw0.out.lt)
  have Nw0 := hide (Nw0.out.below hb2 Nw0.out.lt)
  clear hb2
  rw [← HR0.out] at yg0
  have Og0 := hide yg0
  have Ng0 := hide zg0
  have Lg0 := hide (show ∀ g ∈ fg0, u1.heap.size + 1 ≤ g ∧ g < u2.heap.size from fun g hg => ⟨by have := (zg0.fr g hg).1; simpa only [World.size_alloc, size_setRow] using this, zg0.lt g hg⟩)
  clear yg0 zg0
  have hlg0 : vg0.length = 18 := by rw [Og0.out.length, CrewWorld.cells_len]
  have HIg0 := hide (show zeroCells.toArray.size = vg0.toArray.size ∧ (Try.prog.info? 50).map (·.size) = some vg0.toArray.size ∧ vg0.toArray.all (·.oneCell') = true from ⟨by rw [List.size_toArray, List.size_toArray, hlg0]; rfl, by rw [List.size_toArray, hlg0]; kernel_rfl, Array.all_eq_true_iff_forall_mem.2 (fun v hv => OwC.cell1 _ Og0.out v (by simpa using hv))⟩)
  have HZg0 := hide (show Row (u2.alloc (.cells zeroCells.toArray 50)) u2.heap.size 50 zeroCells from Row.new u2 _ _)
  have hAPg0 : Below u2.heap.size u2 ((u2.alloc (.cells zeroCells.toArray 50)).setRow u2.heap.size vg0.toArray) := below_setRow ((Below.refl _ _).alloc (Nat.le_refl _) _) (Nat.le_refl _) _
  have BPg0 := hide (B2.out.trans (hAPg0.mono B2.out.size))
  have Pw0 := Pw0.below hAPg0 Pw0.lt
  have Ow0 := hide (Ow0.out.below hAPg0 Nw0.out.lt)
  have Nw0 := hide (Nw0.out.below hAPg0 Nw0.out.lt)
  have Og0 := hide (Og0.out.below hAPg0 Ng0.out.lt)
  have Ng0 := hide (Ng0.out.below hAPg0 Ng0.out.lt)
  have Pg0 : Row ((u2.alloc (.cells zeroCells.toArray 50)).setRow u2.heap.size vg0.toArray) u2.heap.size 50 vg0 := Row.setRow' HZg0.out vg0
  clear hAPg0 hlg0
  have lt2_Pw0 := Pw0.lt
  have lt2_Pg0 := Pg0.lt
  go_wp2_with (first | (refine wpList_store_row rfl 50 _ _ rfl u2.heap.size vg0.toArray rfl rfl 50 zeroCells.toArray HZg0.out HIg0.out.2.1 HIg0.out.1 HIg0.out.2.2 ?_) | (refine wpList_load_row rfl 50 _ rfl (u1.heap.size) rfl 50 vw0.toArray (0, 0) _ Pw0 Try.underlying50 rfl HIw0.out.2.1 ?_) | (refine wpList_load_row rfl 50 _ rfl (u2.heap.size) rfl 50 vg0.toArray (0, 0) _ Pg0 Try.underlying50 rfl HIg0.out.2.1 ?_))
  refine (eqCrewWorld_any r0 _ _ _ _ _ Og0.out Ow0.out Ng0.out.lt Nw0.out.lt).mono ?_
  rintro e u3 ⟨rfl, hb3⟩
  clear lt2_Pw0 lt2_Pg0
  have S3 := hide (show u2.heap.size + 1 ≤ u3.heap.size from by have := hb3.size; simpa only [World.size_alloc, size_setRow] using this)
  have B3 := hide (BPg0.out.trans (hb3.mono BPg0.out.size))
  have Pw0 := Pw0.below hb3 Pw0.lt
  have Pg0 := Pg0.below hb3 Pg0.lt
  have Ow0 := hide (Ow0.out.below hb3 Nw0.out.lt)
  have Nw0 := hide (Nw0.out.below hb3 Nw0.out.lt)
  have Og0 := hide (Og0.out.below hb3 Ng0.out.lt)
  have Ng0 := hide (Ng0.out.below hb3 Ng0.out.lt)
  clear hb3
  have lt3_Pw0 := Pw0.lt
  have lt3_Pg0 := Pg0.lt
  go_wp2_with (first | (refine wpList_load_row rfl 50 _ rfl (u1.heap.size) rfl 50 vw0.toArray (0, 0) _ Pw0 Try.underlying50 rfl HIw0.out.2.1 ?_) | (refine wpList_load_row rfl 50 _ rfl (u2.heap.size) rfl 50 vg0.toArray (0, 0) _ Pg0 Try.underlying50 rfl HIg0.out.2.1 ?_))
  refine (markCrewWorld_any r0 _ fg0 _ _ (1) _ (by omega) Og0.out Ng0.out (by omega)).mono ?_
  rintro e u4 ⟨lg0, rfl, og0, kg0, ht4⟩
  clear lt3_Pw0 lt3_Pg0
  have S4 := hide (show u3.heap.size ≤ u4.heap.size from ht4.size)
  have B4 := hide (B3.out.trans (ht4.to_below B3.out.size (fun g hg => by have := Lg0.out g hg; have := S1.out; have := S2.out; have := S3.out; omega)))
  have Pw0 := rowTouch Pw0 ht4 (fun hg => by have := Lg0.out _ hg; have := S1.out; have := S2.out; have := S3.out; omega)
  have Pg0 := rowTouch Pg0 ht4 (fun hg => by have := Lg0.out _ hg; have := S1.out; have := S2.out; have := S3.out; omega)
  have Ow0 := hide (Ow0.out.touch ht4 Nw0.out.lt (fun g hg hg2 => by have := Lw0.out g hg; have := Lg0.out g hg2; have := S1.out; have := S2.out; have := S3.out; omega))
  have Nw0 := hide (ht4.new Nw0.out)
  have Og0 := hide og0
  have Ng0 := hide (ht4.new Ng0.out)
  have Kg0 := hide kg0
  clear og0 kg0 ht4
  have lt4_Pw0 := Pw0.lt
  have lt4_Pg0 := Pg0.lt
  go_wp2_with (first | (refine wpList_load_row rfl 50 _ rfl (u1.heap.size) rfl 50 vw0.toArray (0, 0) _ Pw0 Try.underlying50 rfl HIw0.out.2.1 ?_) | (refine wpList_load_row rfl 50 _ rfl (u2.heap.size) rfl 50 vg0.toArray (0, 0) _ Pg0 Try.underlying50 rfl HIg0.out.2.1 ?_))
  refine (heldCrewWorld_any lg0 _ fg0 _ (1) (1 + r0.cntTop) _ (by omega) Og0.out Ng0.out.lt Kg0.out (by omega)).mono ?_
  rintro e u5 ⟨rfl, hb5⟩
  clear lt4_Pw0 lt4_Pg0
  have S5 := hide (show u4.heap.size ≤ u5.heap.size from by have := hb5.size; simpa only [World.size_alloc, size_setRow] using this)
  have B5 := hide (B4.out.trans (hb5.mono B4.out.size))
  have Pw0 := Pw0.below hb5 Pw0.lt
  have Pg0 := Pg0.below hb5 Pg0.lt
  have Ow0 := hide (Ow0.out.below hb5 Nw0.out.lt)
  have Nw0 := hide (Nw0.out.below hb5 Nw0.out.lt)
  have Og0 := hide (Og0.out.below hb5 Ng0.out.lt)
  have Ng0 := hide (Ng0.out.below hb5 Ng0.out.lt)
  clear hb5
  have lt5_Pw0 := Pw0.lt
  have lt5_Pg0 := Pg0.lt
  go_wp2_with (first | (refine wpList_load_row rfl 50 _ rfl (u1.heap.size) rfl 50 vw0.toArray (0, 0) _ Pw0 Try.underlying50 rfl HIw0.out.2.1 ?_) | (refine wpList_load_row rfl 50 _ rfl (u2.heap.size) rfl 50 vg0.toArray (0, 0) _ Pg0 Try.underlying50 rfl HIg0.out.2.1 ?_))
  refine (implCrewStart_any n0 n1 n2 _ hn0 hn1 hn2).mono ?_
  rintro e u6 ⟨vh0, fh0, rfl, yh0, zh0, hb6⟩
  clear lt5_Pw0 lt5_Pg0
  have S6 := hide (show u5.heap.size ≤ u6.heap.size from by have := hb6.size; simpa only [World.size_alloc, size_setRow] using this)
  have B6 := hide (B5.out.trans (hb6.mono B5.out.size))
  have Pw0 := Pw0.below hb6 Pw0.lt
  have Pg0 := Pg0.below hb6 Pg0.lt
  have Ow0 := hide (Ow0.out.below hb6 Nw0.out.lt)
  have Nw0 := hide (Nw0.out.below hb6 Nw0.out.lt)
  have Og0 := hide (Og0.out.below hb6 Ng0.out.lt)
  have Ng0 := hide (Ng0.out.below hb6 Ng0.out.lt)
  clear hb6
  rw [← HR0.out] at yh0
  have Oh0 := hide yh0
  have Nh0 := hide zh0
  have Lh0 := hide (show ∀ g ∈ fh0, u5.heap.size ≤ g ∧ g < u6.heap.size from fun g hg => ⟨by have := (zh0.fr g hg).1; simpa only [World.size_alloc, size_setRow] using this, zh0.lt g hg⟩)
  clear yh0 zh0
  have hlh0 : vh0.length = 18 := by rw [Oh0.out.length, CrewWorld.cells_len]
  have HIh0 := hide (show zeroCells.toArray.size = vh0.toArray.size ∧ (Try.prog.info? 50).map (·.size) = some vh0.toArray.size ∧ vh0.toArray.all (·.oneCell') = true from ⟨by rw [List.size_toArray, List.size_toArray, hlh0]; rfl, by rw [List.size_toArray, hlh0]; kernel_rfl, Array.all_eq_true_iff_forall_mem.2 (fun v hv => OwC.cell1 _ Oh0.out v (by simpa using hv))⟩)
  have HZh0 := hide (show Row (u6.alloc (.cells zeroCells.toArray 50)) u6.heap.size 50 zeroCells from Row.new u6 _ _)
  have hAPh0 : Below u6.heap.size u6 ((u6.alloc (.cells zeroCells.toArray 50)).setRow u6.heap.size vh0.toArray) := below_setRow ((Below.refl _ _).alloc (Nat.le_refl _) _) (Nat.le_refl _) _
  have BPh0 := hide (B6.out.trans (hAPh0.mono B6.out.size))
  have Pw0 := Pw0.below hAPh0 Pw0.lt
  have Pg0 := Pg0.below hAPh0 Pg0.lt
  have Ow0 := hide (Ow0.out.below hAPh0 Nw0.out.lt)
  have Nw0 := hide (Nw0.out.below hAPh0 Nw0.out.lt)
  have Og0 := hide (Og0.out.below hAPh0 Ng0.out.lt)
  have Ng0 := hide (Ng0.out.below hAPh0 Ng0.out.lt)
  have Oh0 := hide (Oh0.out.below hAPh0 Nh0.out.lt)
  have Nh0 := hide (Nh0.out.below hAPh0 Nh0.out.lt)
  have Ph0 : Row ((u6.alloc (.cells zeroCells.toArray 50)).setRow u6.heap.size vh0.toArray) u6.heap.size 50 vh0 := Row.setRow' HZh0.out vh0
  clear hAPh0 hlh0
  have lt6_Pw0 := Pw0.lt
  have lt6_Pg0 := Pg0.lt
  have lt6_Ph0 := Ph0.lt
  go_wp2_with (first | (refine wpList_store_row rfl 50 _ _ rfl u6.heap.size vh0.toArray rfl rfl 50 zeroCells.toArray HZh0.out HIh0.out.2.1 HIh0.out.1 HIh0.out.2.2 ?_) | (refine wpList_load_row rfl 50 _ rfl (u1.heap.size) rfl 50 vw0.toArray (0, 0) _ Pw0 Try.underlying50 rfl HIw0.out.2.1 ?_) | (refine wpList_load_row rfl 50 _ rfl (u2.heap.size) rfl 50 vg0.toArray (0, 0) _ Pg0 Try.underlying50 rfl HIg0.out.2.1 ?_) | (refine wpList_load_row rfl 50 _ rfl (u6.heap.size) rfl 50 vh0.toArray (0, 0) _ Ph0 Try.underlying50 rfl HIh0.out.2.1 ?_))
  refine (eqCrewWorld_any r0 _ _ _ _ _ Oh0.out Ow0.out Nh0.out.lt Nw0.out.lt).mono ?_
  rintro e u7 ⟨rfl, hb7⟩
  clear lt6_Pw0 lt6_Pg0 lt6_Ph0
  have S7 := hide (show u6.heap.size + 1 ≤ u7.heap.size from by have := hb7.size; simpa only [World.size_alloc, size_setRow] using this)
  have B7 := hide (BPh0.out.trans (hb7.mono BPh0.out.size))
  have Pw0 := Pw0.below hb7 Pw0.lt
  have Pg0 := Pg0.below hb7 Pg0.lt
  have Ph0 := Ph0.below hb7 Ph0.lt
  have Ow0 := hide (Ow0.out.below hb7 Nw0.out.lt)
  have Nw0 := hide (Nw0.out.below hb7 Nw0.out.lt)
  have Og0 := hide (Og0.out.below hb7 Ng0.out.lt)
  have Ng0 := hide (Ng0.out.below hb7 Ng0.out.lt)
  have Oh0 := hide (Oh0.out.below hb7 Nh0.out.lt)
  have Nh0 := hide (Nh0.out.below hb7 Nh0.out.lt)
  clear hb7
  have lt7_Pw0 := Pw0.lt
  have lt7_Pg0 := Pg0.lt
  have lt7_Ph0 := Ph0.lt
  go_wp2_with (first | (refine wpList_load_row rfl 50 _ rfl (u1.heap.size) rfl 50 vw0.toArray (0, 0) _ Pw0 Try.underlying50 rfl HIw0.out.2.1 ?_) | (refine wpList_load_row rfl 50 _ rfl (u2.heap.size) rfl 50 vg0.toArray (0, 0) _ Pg0 Try.underlying50 rfl HIg0.out.2.1 ?_) | (refine wpList_load_row rfl 50 _ rfl (u6.heap.size) rfl 50 vh0.toArray (0, 0) _ Ph0 Try.underlying50 rfl HIh0.out.2.1 ?_))
  refine (heldCrewWorld_any lg0 _ fg0 _ (1) (1 + r0.cntTop) _ (by omega) Og0.out Ng0.out.lt Kg0.out (by omega)).mono ?_
  rintro e u8 ⟨rfl, hb8⟩
  clear lt7_Pw0 lt7_Pg0 lt7_Ph0
  have S8 := hide (show u7.heap.size ≤ u8.heap.size from by have := hb8.size; simpa only [World.size_alloc, size_setRow] using this)
  have B8 := hide (B7.out.trans (hb8.mono B7.out.size))
  have Pw0 := Pw0.below hb8 Pw0.lt
  have Pg0 := Pg0.below hb8 Pg0.lt
  have Ph0 := Ph0.below hb8 Ph0.lt
  have Ow0 := hide (Ow0.out.below hb8 Nw0.out.lt)
  have Nw0 := hide (Nw0.out.below hb8 Nw0.out.lt)
  have Og0 := hide (Og0.out.below hb8 Ng0.out.lt)
  have Ng0 := hide (Ng0.out.below hb8 Ng0.out.lt)
  have Oh0 := hide (Oh0.out.below hb8 Nh0.out.lt)
  have Nh0 := hide (Nh0.out.below hb8 Nh0.out.lt)
  clear hb8
  have lt8_Pw0 := Pw0.lt
  have lt8_Pg0 := Pg0.lt
  have lt8_Ph0 := Ph0.lt
  go_wp2_with (first | (refine wpList_load_row rfl 50 _ rfl (u1.heap.size) rfl 50 vw0.toArray (0, 0) _ Pw0 Try.underlying50 rfl HIw0.out.2.1 ?_) | (refine wpList_load_row rfl 50 _ rfl (u2.heap.size) rfl 50 vg0.toArray (0, 0) _ Pg0 Try.underlying50 rfl HIg0.out.2.1 ?_) | (refine wpList_load_row rfl 50 _ rfl (u6.heap.size) rfl 50 vh0.toArray (0, 0) _ Ph0 Try.underlying50 rfl HIh0.out.2.1 ?_))
  go_ret
  exact ⟨rfl, B8.out⟩
end Go.Proofs.Ytdingkbggjehoaa
