/-
  CrewRun: the program's and the reference's answer alike.
-/
import Derived.Test.YtdingkbggjehoaaCrewSerial
import Derived.Test.YtdingkbggjehoaaStartW
import Derived.Test.YtdingkbggjehoaaStartI
import Derived.Laws.CopyOwn
set_option linter.unusedVariables false
set_option linter.unusedSimpArgs false
namespace Go.Proofs.Ytdingkbggjehoaa
open Go.ChangeShapes Go.WideShapes Go.ChangeAt Go.RowKit

theorem zr_one : (#[.bool false, .slice none 0 0, .slice none 0 0, .int .i64 0, .int .i64 0, .int .i64 0] : Array Value).all (·.oneCell') = true := by simp [Value.oneCell']
theorem rowFar {w : World} {g b : Nat} {e : TypeId} {cs : List Value} (h : Row w g e cs) (hn : g ≠ b) (vs : Array Value) : Row (w.setRow b vs) g e cs := (setRow_other w b g vs hn).trans h
noncomputable def runOf (l : List CrewJob) (b c : Int) : CrewTold := if tb (crewOk (l.length : Int) b c) = true then serialOf l else CrewTold.none_
def RunRet (l : List CrewJob) (b c : Int) (w : World) (e : Ending) (w' : World) : Prop := ∃ us fq, e = .returned (.agg us.toArray) ∧ OwC w' (runOf l b c).cells us fq ∧ New w' fq w.heap.size ∧ Below w.heap.size w w'

set_option maxRecDepth 100000 in
set_option maxHeartbeats 1000000 in
theorem specCrewRun_any (l : List CrewJob) (A : Option Addr) (n c : Nat) (fp : List Nat) (n1 n2 : Int) (w : World) (h : Ow w (.s 2 l.length (l.flatMap CrewJob.cells)) (.slice A n c) fp) (hf : Lt fp w.heap.size) (hbk : CrewJob.bulkL l ≤ 1048576) (hw1 : (Lit.int .i64 n1).wf = true) (hw2 : (Lit.int .i64 n2).wf = true) :
    Calls Try.prog 45 #[.slice A n c, .int .i64 n1, .int .i64 n2] w (RunRet l n1 n2 w) := by
  obtain ⟨rfl, hc, hm⟩ := h.nlen
  unfold maxLen at hm
  have HO := hide h
  have RZ : Row (w.alloc (.cells #[.bool false, .slice none 0 0, .slice none 0 0, .int .i64 0, .int .i64 0, .int .i64 0] 60)) w.heap.size 60 [.bool false, .slice none 0 0, .slice none 0 0, .int .i64 0, .int .i64 0, .int .i64 0] := Row.new w _ _
  have B0 := hide (show Below w.heap.size w (w.alloc (.cells #[.bool false, .slice none 0 0, .slice none 0 0, .int .i64 0, .int .i64 0, .int .i64 0] 60)) from (Below.refl _ _).alloc (Nat.le_refl _) _)
  clear h
  go_enter Try.func45, Try.ntmps45
  go_wp2_with fail
  refine (specCrewStart_any (l.length : Int) n1 n2 _ (WalkArith.wf_i64 (by omega)) hw1 hw2).mono ?_
  rintro e w2 ⟨us, fq, rfl, ho, hn, hb2⟩
  have B2 := hide (B0.out.trans (hb2.mono B0.out.size))
  have RZ2 := hide (RZ.below hb2 RZ.lt)
  have hlen : us.length = 18 := by rw [ho.length, CrewWorld.cells_len]
  have hsz18 : zeroCells.toArray.size = us.toArray.size := by rw [List.size_toArray, List.size_toArray, hlen]; rfl
  have hi18 : (Try.prog.info? 50).map (·.size) = some us.toArray.size := by rw [List.size_toArray, hlen]; kernel_rfl
  have h118 : us.toArray.all (·.oneCell') = true := Array.all_eq_true_iff_forall_mem.2 (fun v hv => OwC.cell1 _ ho v (by simpa using hv))
  have HN18 := hide (show Row (w2.alloc (.cells zeroCells.toArray 50)) w2.heap.size 50 zeroCells from Row.new w2 _ _)
  have H18 := hide (show zeroCells.toArray.size = us.toArray.size ∧ (Try.prog.info? 50).map (·.size) = some us.toArray.size ∧ us.toArray.all (·.oneCell') = true from ⟨hsz18, hi18, h118⟩)
  clear RZ hb2 ho hn hlen hsz18 hi18 h118
  have HA := hide (show Below w2.heap.size w2 ((w2.alloc (.cells zeroCells.toArray 50)).setRow w2.heap.size us.toArray) from below_setRow ((Below.refl _ _).alloc (Nat.le_refl _) _) (Nat.le_refl _) _)
  have B2a := hide (B2.out.trans (HA.out.mono B2.out.size))
  have RZ2a := hide (rowFar (RZ2.out.alloc (.cells zeroCells.toArray 50)) (show w.heap.size ≠ w2.heap.size from fun e => by have := RZ2.out.lt; omega) us.toArray)
  have lz := RZ2a.out.lt
  have lz2 := RZ2.out.lt
  by_cases hok : crewOk (l.length : Int) n1 n2
  · rw [tb_true hok]
    have HR := hide (show runOf l n1 n2 = serialOf l from by unfold runOf; rw [if_pos (tb_true hok)])
    clear hok
    go_wp2_with (first | (refine wpList_store_row rfl 50 _ _ rfl w2.heap.size us.toArray rfl rfl 50 zeroCells.toArray HN18.out H18.out.2.1 H18.out.1 H18.out.2.2 ?_))
    refine (specCrewSerial_any l _ _ _ _ _ (HO.out.below B2a.out hf) (hf.up B2a.out) hbk).mono ?_
    rintro e w3 ⟨us, fq, rfl, ho3, hn3, hb3⟩
    obtain ⟨A1, c1, A2, c2, f1, f2, rfl, o1, o2, x3, x4, x5, efp⟩ := ho3.oCrewTold
    have HO3 := hide ho3
    have HN3 := hide hn3
    have hnot : w.heap.size ∉ fq := fun hm => by have := (hn3.fr _ hm).1; omega
    have B3 := hide (B2a.out.trans (hb3.mono B2a.out.size))
    have RZ3 := hide (RZ2a.out.below hb3 lz)
    clear ho3 hn3 hb3 o1 o2 RZ2 RZ2a lz lz2 HN18 H18
    have lz := RZ3.out.lt
    have z0 := RZ3.out.cell 0
    have z1 := RZ3.out.cell 1
    have z2 := RZ3.out.cell 2
    have z3 := RZ3.out.cell 3
    have z4 := RZ3.out.cell 4
    have z5 := RZ3.out.cell 5
    have y0 := RZ3.out.frozen 0
    have y1 := RZ3.out.frozen 1
    have y2 := RZ3.out.frozen 2
    have y3 := RZ3.out.frozen 3
    have y4 := RZ3.out.frozen 4
    have y5 := RZ3.out.frozen 5
    have HFIN := hide (fun W (hgr : w3.grownBy W (some w.heap.size)) => show OwC W (runOf l n1 n2).cells [.bool (serialOf l).ok, .slice A1 (serialOf l).items.length c1, .slice A2 (serialOf l).dead.length c2, .int .i64 (serialOf l).jobs, .int .i64 (serialOf l).steps, .int .i64 (serialOf l).ops] fq ∧ New W fq w.heap.size ∧ Below w.heap.size w W from
      ⟨by rw [HR.out]; exact HO3.out.grown hgr HN3.out.lt hnot, (HN3.out.grown hgr (fun g e => by injection e with e; subst e; exact hnot)).mono B2a.out.size, B3.out.trans (below_of_grown hgr (Nat.le_refl _) B3.out.size)⟩)
    clear HO3 HN3 HR
    go_wp2
    refine bodyPost_ret (ret_row rfl _ _ w.heap.size 60 [.bool (serialOf l).ok, .slice A1 (serialOf l).items.length c1, .slice A2 (serialOf l).dead.length c2, .int .i64 (serialOf l).jobs, .int .i64 (serialOf l).steps, .int .i64 (serialOf l).ops] (by exact (((((RZ3.out.set 0 _).set 1 _).set 2 _).set 3 _).set 4 _).set 5 _) _ rfl Try.underlying60 rfl (by kernel_rfl)) rfl ?_
    exact ⟨_, _, rfl, HFIN.out _ (by (iterate 6 refine only_setCell ?_ (.inl rfl) _); exact grown_refl w3 _)⟩
  · rw [tb_false hok]
    have HR := hide (show runOf l n1 n2 = CrewTold.none_ from by unfold runOf; rw [if_neg (by rw [tb_false hok]; simp)])
    clear hok
    go_wp2_with (first | (refine wpList_store_row rfl 50 _ _ rfl w2.heap.size us.toArray rfl rfl 50 zeroCells.toArray HN18.out H18.out.2.1 H18.out.1 H18.out.2.2 ?_) | (refine wpList_store_row rfl 60 _ _ rfl w.heap.size #[.bool false, .slice none 0 0, .slice none 0 0, .int .i64 0, .int .i64 0, .int .i64 0] rfl rfl 60 #[.bool false, .slice none 0 0, .slice none 0 0, .int .i64 0, .int .i64 0, .int .i64 0] RZ2a.out (by kernel_rfl) rfl zr_one ?_))
    refine bodyPost_ret (ret_row rfl _ _ w.heap.size 60 [.bool false, .slice none 0 0, .slice none 0 0, .int .i64 0, .int .i64 0, .int .i64 0] (Row.setRow' RZ2a.out [.bool false, .slice none 0 0, .slice none 0 0, .int .i64 0, .int .i64 0, .int .i64 0]) _ rfl Try.underlying60 rfl (by kernel_rfl)) rfl ?_
    have HFIN := fun W (hgr : (((w2.alloc (.cells zeroCells.toArray 50)).setRow w2.heap.size us.toArray)).grownBy W (some w.heap.size)) => show Below w.heap.size w W from B2a.out.trans (below_of_grown hgr (Nat.le_refl _) B2a.out.size)
    exact ⟨_, [], rfl, by rw [HR.out]; exact crewNone_ow _, New.nil _ _, HFIN _ (setRow_grown (grown_refl _ _) _)⟩

set_option maxRecDepth 100000 in
set_option maxHeartbeats 1000000 in
theorem implCrewRun_any (l : List CrewJob) (A : Option Addr) (n c : Nat) (fp : List Nat) (n1 n2 : Int) (w : World) (h : Ow w (.s 2 l.length (l.flatMap CrewJob.cells)) (.slice A n c) fp) (hf : Lt fp w.heap.size) (hbk : CrewJob.bulkL l ≤ 1048576) (hw1 : (Lit.int .i64 n1).wf = true) (hw2 : (Lit.int .i64 n2).wf = true) :
    Calls Try.prog 46 #[.slice A n c, .int .i64 n1, .int .i64 n2] w (RunRet l n1 n2 w) := by
  obtain ⟨rfl, hc, hm⟩ := h.nlen
  unfold maxLen at hm
  have HO := hide h
  have RZ : Row (w.alloc (.cells #[.bool false, .slice none 0 0, .slice none 0 0, .int .i64 0, .int .i64 0, .int .i64 0] 60)) w.heap.size 60 [.bool false, .slice none 0 0, .slice none 0 0, .int .i64 0, .int .i64 0, .int .i64 0] := Row.new w _ _
  have B0 := hide (show Below w.heap.size w (w.alloc (.cells #[.bool false, .slice none 0 0, .slice none 0 0, .int .i64 0, .int .i64 0, .int .i64 0] 60)) from (Below.refl _ _).alloc (Nat.le_refl _) _)
  clear h
  go_enter Try.func46, Try.ntmps46
  go_wp2_with fail
  refine (implCrewStart_any (l.length : Int) n1 n2 _ (WalkArith.wf_i64 (by omega)) hw1 hw2).mono ?_
  rintro e w2 ⟨us, fq, rfl, ho, hn, hb2⟩
  have B2 := hide (B0.out.trans (hb2.mono B0.out.size))
  have RZ2 := hide (RZ.below hb2 RZ.lt)
  have hlen : us.length = 18 := by rw [ho.length, CrewWorld.cells_len]
  have hsz18 : zeroCells.toArray.size = us.toArray.size := by rw [List.size_toArray, List.size_toArray, hlen]; rfl
  have hi18 : (Try.prog.info? 50).map (·.size) = some us.toArray.size := by rw [List.size_toArray, hlen]; kernel_rfl
  have h118 : us.toArray.all (·.oneCell') = true := Array.all_eq_true_iff_forall_mem.2 (fun v hv => OwC.cell1 _ ho v (by simpa using hv))
  have HN18 := hide (show Row (w2.alloc (.cells zeroCells.toArray 50)) w2.heap.size 50 zeroCells from Row.new w2 _ _)
  have H18 := hide (show zeroCells.toArray.size = us.toArray.size ∧ (Try.prog.info? 50).map (·.size) = some us.toArray.size ∧ us.toArray.all (·.oneCell') = true from ⟨hsz18, hi18, h118⟩)
  clear RZ hb2 ho hn hlen hsz18 hi18 h118
  have HA := hide (show Below w2.heap.size w2 ((w2.alloc (.cells zeroCells.toArray 50)).setRow w2.heap.size us.toArray) from below_setRow ((Below.refl _ _).alloc (Nat.le_refl _) _) (Nat.le_refl _) _)
  have B2a := hide (B2.out.trans (HA.out.mono B2.out.size))
  have RZ2a := hide (rowFar (RZ2.out.alloc (.cells zeroCells.toArray 50)) (show w.heap.size ≠ w2.heap.size from fun e => by have := RZ2.out.lt; omega) us.toArray)
  have lz := RZ2a.out.lt
  have lz2 := RZ2.out.lt
  by_cases hok : crewOk (l.length : Int) n1 n2
  · rw [tb_true hok]
    have HR := hide (show runOf l n1 n2 = serialOf l from by unfold runOf; rw [if_pos (tb_true hok)])
    clear hok
    go_wp2_with (first | (refine wpList_store_row rfl 50 _ _ rfl w2.heap.size us.toArray rfl rfl 50 zeroCells.toArray HN18.out H18.out.2.1 H18.out.1 H18.out.2.2 ?_))
    refine (implCrewSerial_any l _ _ _ _ _ (HO.out.below B2a.out hf) (hf.up B2a.out) hbk).mono ?_
    rintro e w3 ⟨us, fq, rfl, ho3, hn3, hb3⟩
    obtain ⟨A1, c1, A2, c2, f1, f2, rfl, o1, o2, x3, x4, x5, efp⟩ := ho3.oCrewTold
    have HO3 := hide ho3
    have HN3 := hide hn3
    have hnot : w.heap.size ∉ fq := fun hm => by have := (hn3.fr _ hm).1; omega
    have B3 := hide (B2a.out.trans (hb3.mono B2a.out.size))
    have RZ3 := hide (RZ2a.out.below hb3 lz)
    clear ho3 hn3 hb3 o1 o2 RZ2 RZ2a lz lz2 HN18 H18
    have lz := RZ3.out.lt
    have z0 := RZ3.out.cell 0
    have z1 := RZ3.out.cell 1
    have z2 := RZ3.out.cell 2
    have z3 := RZ3.out.cell 3
    have z4 := RZ3.out.cell 4
    have z5 := RZ3.out.cell 5
    have y0 := RZ3.out.frozen 0
    have y1 := RZ3.out.frozen 1
    have y2 := RZ3.out.frozen 2
    have y3 := RZ3.out.frozen 3
    have y4 := RZ3.out.frozen 4
    have y5 := RZ3.out.frozen 5
    have HFIN := hide (fun W (hgr : w3.grownBy W (some w.heap.size)) => show OwC W (runOf l n1 n2).cells [.bool (serialOf l).ok, .slice A1 (serialOf l).items.length c1, .slice A2 (serialOf l).dead.length c2, .int .i64 (serialOf l).jobs, .int .i64 (serialOf l).steps, .int .i64 (serialOf l).ops] fq ∧ New W fq w.heap.size ∧ Below w.heap.size w W from
      ⟨by rw [HR.out]; exact HO3.out.grown hgr HN3.out.lt hnot, (HN3.out.grown hgr (fun g e => by injection e with e; subst e; exact hnot)).mono B2a.out.size, B3.out.trans (below_of_grown hgr (Nat.le_refl _) B3.out.size)⟩)
    clear HO3 HN3 HR
    go_wp2
    refine bodyPost_ret (ret_row rfl _ _ w.heap.size 60 [.bool (serialOf l).ok, .slice A1 (serialOf l).items.length c1, .slice A2 (serialOf l).dead.length c2, .int .i64 (serialOf l).jobs, .int .i64 (serialOf l).steps, .int .i64 (serialOf l).ops] (by exact (((((RZ3.out.set 0 _).set 1 _).set 2 _).set 3 _).set 4 _).set 5 _) _ rfl Try.underlying60 rfl (by kernel_rfl)) rfl ?_
    exact ⟨_, _, rfl, HFIN.out _ (by (iterate 6 refine only_setCell ?_ (.inl rfl) _); exact grown_refl w3 _)⟩
  · rw [tb_false hok]
    have HR := hide (show runOf l n1 n2 = CrewTold.none_ from by unfold runOf; rw [if_neg (by rw [tb_false hok]; simp)])
    clear hok
    go_wp2_with (first | (refine wpList_store_row rfl 50 _ _ rfl w2.heap.size us.toArray rfl rfl 50 zeroCells.toArray HN18.out H18.out.2.1 H18.out.1 H18.out.2.2 ?_) | (refine wpList_store_row rfl 60 _ _ rfl w.heap.size #[.bool false, .slice none 0 0, .slice none 0 0, .int .i64 0, .int .i64 0, .int .i64 0] rfl rfl 60 #[.bool false, .slice none 0 0, .slice none 0 0, .int .i64 0, .int .i64 0, .int .i64 0] RZ2a.out (by kernel_rfl) rfl zr_one ?_))
    refine bodyPost_ret (ret_row rfl _ _ w.heap.size 60 [.bool false, .slice none 0 0, .slice none 0 0, .int .i64 0, .int .i64 0, .int .i64 0] (Row.setRow' RZ2a.out [.bool false, .slice none 0 0, .slice none 0 0, .int .i64 0, .int .i64 0, .int .i64 0]) _ rfl Try.underlying60 rfl (by kernel_rfl)) rfl ?_
    have HFIN := fun W (hgr : (((w2.alloc (.cells zeroCells.toArray 50)).setRow w2.heap.size us.toArray)).grownBy W (some w.heap.size)) => show Below w.heap.size w W from B2a.out.trans (below_of_grown hgr (Nat.le_refl _) B2a.out.size)
    exact ⟨_, [], rfl, by rw [HR.out]; exact crewNone_ow _, New.nil _ _, HFIN _ (setRow_grown (grown_refl _ _) _)⟩
end Go.Proofs.Ytdingkbggjehoaa
