/-
  CrewSerial: the program's and the reference's answer alike.
-/
import Derived.Test.YtpkjjfnfolbcoaaQCrewT
import Derived.Test.YtpkjjfnfolbcoaaQCrewO
set_option linter.unusedVariables false
set_option linter.unusedSimpArgs false
namespace Go.Proofs.Ytpkjjfnfolbcoaa
open Go.ChangeShapes Go.WideShapes Go.ChangeAt Go.RowKit

def SerialRet (l : List CrewJob) (w : World) (e : Ending) (w' : World) : Prop := ∃ us fq, e = .returned (.agg us.toArray) ∧ OwC w' (serialOf l).cells us fq ∧ New w' fq w.heap.size ∧ Below w.heap.size w w'
theorem crewNone_ow (W : World) : OwC W CrewTold.none_.cells [.bool false, .slice none 0 0, .slice none 0 0, .int .i64 0, .int .i64 0, .int .i64 0] [] :=
  OwC.mCrewTold (x := CrewTold.none_) (v1 := .slice none 0 0) (v2 := .slice none 0 0) (f1 := []) (f2 := []) (Ow.nil_ W 1 intC) (Ow.nil_ W 2 CrewDead.cells) (show (Lit.int .i64 0).wf = true by decide) (show (Lit.int .i64 0).wf = true by decide) (show (Lit.int .i64 0).wf = true by decide)

set_option maxRecDepth 100000 in
set_option maxHeartbeats 1000000 in
theorem specCrewSerial_any (l : List CrewJob) (A : Option Addr) (n c : Nat) (fp : List Nat) (w : World) (h : Ow w (.s 2 l.length (l.flatMap CrewJob.cells)) (.slice A n c) fp) (hf : Lt fp w.heap.size) (hbk : CrewJob.bulkL l ≤ 1048576) :
    Calls Try.prog 46 #[.slice A n c] w (SerialRet l w) := by
  obtain ⟨rfl, hc, hm⟩ := h.nlen
  have HO := hide h
  have RZ : Row (w.alloc (.cells #[.bool false, .slice none 0 0, .slice none 0 0, .int .i64 0, .int .i64 0, .int .i64 0] 45)) w.heap.size 45 [.bool false, .slice none 0 0, .slice none 0 0, .int .i64 0, .int .i64 0, .int .i64 0] := Row.new w _ _
  have B0 := hide (show Below w.heap.size w (w.alloc (.cells #[.bool false, .slice none 0 0, .slice none 0 0, .int .i64 0, .int .i64 0, .int .i64 0] 45)) from (Below.refl _ _).alloc (Nat.le_refl _) _)
  clear h
  go_enter Try.func46, Try.ntmps46
  go_wp2_with fail
  refine (l53Ok_any l _ _ _ _ _ (HO.out.below B0.out hf) (hf.up B0.out)).mono ?_
  rintro e w2 ⟨rfl, hb2⟩
  have B2 := hide (B0.out.trans (hb2.mono B0.out.size))
  have RZ2 := hide (RZ.below hb2 RZ.lt)
  clear RZ hb2
  have lz := RZ2.out.lt
  by_cases hok : jobsOk l
  · rw [tb_true hok]
    have HK := hide hok
    have HR := hide (show serialOf l = toldOf l from by unfold serialOf; rw [if_pos (tb_true hok)])
    clear hok
    go_wp2_with fail
    refine (l53Told_any l _ _ _ _ _ (HO.out.below B2.out hf) (hf.up B2.out) HK.out).mono ?_
    rintro e w3 ⟨us, fq, rfl, ho3, hn3, hb3⟩
    obtain ⟨A1, c1, A2, c2, f1, f2, rfl, o1, o2, x3, x4, x5, efp⟩ := ho3.oCrewTold
    have HO3 := hide ho3
    have HN3 := hide hn3
    have hnot : w.heap.size ∉ fq := fun hm => by have := (hn3.fr _ hm).1; omega
    have B3 := hide (B2.out.trans (hb3.mono B2.out.size))
    have RZ3 := hide (RZ2.out.below hb3 lz)
    clear ho3 hn3 hb3 o1 o2 RZ2 lz
    have lz := RZ3.out.lt
    have z0 := RZ3.out.cell 0
    have z1 := RZ3.out.cell 1
    have z2 := RZ3.out.cell 2
    have z3 := RZ3.out.cell 3
    have z4 := RZ3.out.cell 4
    have z5 := RZ3.out.cell 5
    have y0 := RZ3.out.frozen 0
    have y1 := RZ3.out.frozen 1
    have y2 := RZ3.out.frozen 2
    have y3 := RZ3.out.frozen 3
    have y4 := RZ3.out.frozen 4
    have y5 := RZ3.out.frozen 5
    have HFIN := hide (fun W (hgr : w3.grownBy W (some w.heap.size)) => show OwC W (serialOf l).cells [.bool (toldOf l).ok, .slice A1 (toldOf l).items.length c1, .slice A2 (toldOf l).dead.length c2, .int .i64 (toldOf l).jobs, .int .i64 (toldOf l).steps, .int .i64 (toldOf l).ops] fq ∧ New W fq w.heap.size ∧ Below w.heap.size w W from
      ⟨by rw [HR.out]; exact HO3.out.grown hgr HN3.out.lt hnot, (HN3.out.grown hgr (fun g e => by injection e with e; subst e; exact hnot)).mono B2.out.size, B3.out.trans (below_of_grown hgr (Nat.le_refl _) B3.out.size)⟩)
    clear HO3 HN3 HR HK
    go_wp2
    refine bodyPost_ret (ret_row rfl _ _ w.heap.size 45 [.bool (toldOf l).ok, .slice A1 (toldOf l).items.length c1, .slice A2 (toldOf l).dead.length c2, .int .i64 (toldOf l).jobs, .int .i64 (toldOf l).steps, .int .i64 (toldOf l).ops] (by exact (((((RZ3.out.set 0 _).set 1 _).set 2 _).set 3 _).set 4 _).set 5 _) _ rfl Try.underlying45 rfl (by kernel_rfl)) rfl ?_
    exact ⟨_, _, rfl, HFIN.out _ (by (iterate 6 refine only_setCell ?_ (.inl rfl) _); exact grown_refl w3 _)⟩
  · rw [tb_false hok]
    have HR := hide (show serialOf l = CrewTold.none_ from by unfold serialOf; rw [if_neg (by rw [tb_false hok]; simp)])
    clear hok
    have z0 := RZ2.out.cell 0
    have z1 := RZ2.out.cell 1
    have z2 := RZ2.out.cell 2
    have z3 := RZ2.out.cell 3
    have z4 := RZ2.out.cell 4
    have z5 := RZ2.out.cell 5
    have y0 := RZ2.out.frozen 0
    have y1 := RZ2.out.frozen 1
    have y2 := RZ2.out.frozen 2
    have y3 := RZ2.out.frozen 3
    have y4 := RZ2.out.frozen 4
    have y5 := RZ2.out.frozen 5
    go_wp2
    refine bodyPost_ret (ret_row rfl _ _ w.heap.size 45 [.bool false, .slice none 0 0, .slice none 0 0, .int .i64 0, .int .i64 0, .int .i64 0] (by exact (((((RZ2.out.set 0 _).set 1 _).set 2 _).set 3 _).set 4 _).set 5 _) _ rfl Try.underlying45 rfl (by kernel_rfl)) rfl ?_
    have HFIN := fun W (hgr : w2.grownBy W (some w.heap.size)) => show Below w.heap.size w W from B2.out.trans (below_of_grown hgr (Nat.le_refl _) B2.out.size)
    exact ⟨_, [], rfl, by rw [HR.out]; exact crewNone_ow _, New.nil _ _, HFIN _ (by (iterate 6 refine only_setCell ?_ (.inl rfl) _); exact grown_refl w2 _)⟩

set_option maxRecDepth 100000 in
set_option maxHeartbeats 1000000 in
theorem implCrewSerial_any (l : List CrewJob) (A : Option Addr) (n c : Nat) (fp : List Nat) (w : World) (h : Ow w (.s 2 l.length (l.flatMap CrewJob.cells)) (.slice A n c) fp) (hf : Lt fp w.heap.size) (hbk : CrewJob.bulkL l ≤ 1048576) :
    Calls Try.prog 45 #[.slice A n c] w (SerialRet l w) := by
  obtain ⟨rfl, hc, hm⟩ := h.nlen
  have HO := hide h
  have RZ : Row (w.alloc (.cells #[.bool false, .slice none 0 0, .slice none 0 0, .int .i64 0, .int .i64 0, .int .i64 0] 45)) w.heap.size 45 [.bool false, .slice none 0 0, .slice none 0 0, .int .i64 0, .int .i64 0, .int .i64 0] := Row.new w _ _
  have B0 := hide (show Below w.heap.size w (w.alloc (.cells #[.bool false, .slice none 0 0, .slice none 0 0, .int .i64 0, .int .i64 0, .int .i64 0] 45)) from (Below.refl _ _).alloc (Nat.le_refl _) _)
  clear h
  go_enter Try.func45, Try.ntmps45
  go_wp2_with fail
  refine (jobsAre_any l _ _ _ _ _ (HO.out.below B0.out hf) (hf.up B0.out)).mono ?_
  rintro e w2 ⟨rfl, hb2⟩
  have B2 := hide (B0.out.trans (hb2.mono B0.out.size))
  have RZ2 := hide (RZ.below hb2 RZ.lt)
  clear RZ hb2
  have lz := RZ2.out.lt
  by_cases hok : jobsOk l
  · rw [tb_true hok]
    have HK := hide hok
    have HR := hide (show serialOf l = toldOf l from by unfold serialOf; rw [if_pos (tb_true hok)])
    clear hok
    go_wp2_with fail
    refine (told_any l _ _ _ _ _ (HO.out.below B2.out hf) (hf.up B2.out) HK.out).mono ?_
    rintro e w3 ⟨us, fq, rfl, ho3, hn3, hb3⟩
    obtain ⟨A1, c1, A2, c2, f1, f2, rfl, o1, o2, x3, x4, x5, efp⟩ := ho3.oCrewTold
    have HO3 := hide ho3
    have HN3 := hide hn3
    have hnot : w.heap.size ∉ fq := fun hm => by have := (hn3.fr _ hm).1; omega
    have B3 := hide (B2.out.trans (hb3.mono B2.out.size))
    have RZ3 := hide (RZ2.out.below hb3 lz)
    clear ho3 hn3 hb3 o1 o2 RZ2 lz
    have lz := RZ3.out.lt
    have z0 := RZ3.out.cell 0
    have z1 := RZ3.out.cell 1
    have z2 := RZ3.out.cell 2
    have z3 := RZ3.out.cell 3
    have z4 := RZ3.out.cell 4
    have z5 := RZ3.out.cell 5
    have y0 := RZ3.out.frozen 0
    have y1 := RZ3.out.frozen 1
    have y2 := RZ3.out.frozen 2
    have y3 := RZ3.out.frozen 3
    have y4 := RZ3.out.frozen 4
    have y5 := RZ3.out.frozen 5
    have HFIN := hide (fun W (hgr : w3.grownBy W (some w.heap.size)) => show OwC W (serialOf l).cells [.bool (toldOf l).ok, .slice A1 (toldOf l).items.length c1, .slice A2 (toldOf l).dead.length c2, .int .i64 (toldOf l).jobs, .int .i64 (toldOf l).steps, .int .i64 (toldOf l).ops] fq ∧ New W fq w.heap.size ∧ Below w.heap.size w W from
      ⟨by rw [HR.out]; exact HO3.out.grown hgr HN3.out.lt hnot, (HN3.out.grown hgr (fun g e => by injection e with e; subst e; exact hnot)).mono B2.out.size, B3.out.trans (below_of_grown hgr (Nat.le_refl _) B3.out.size)⟩)
    clear HO3 HN3 HR HK
    go_wp2
    refine bodyPost_ret (ret_row rfl _ _ w.heap.size 45 [.bool (toldOf l).ok, .slice A1 (toldOf l).items.length c1, .slice A2 (toldOf l).dead.length c2, .int .i64 (toldOf l).jobs, .int .i64 (toldOf l).steps, .int .i64 (toldOf l).ops] (by exact (((((RZ3.out.set 0 _).set 1 _).set 2 _).set 3 _).set 4 _).set 5 _) _ rfl Try.underlying45 rfl (by kernel_rfl)) rfl ?_
    exact ⟨_, _, rfl, HFIN.out _ (by (iterate 6 refine only_setCell ?_ (.inl rfl) _); exact grown_refl w3 _)⟩
  · rw [tb_false hok]
    have HR := hide (show serialOf l = CrewTold.none_ from by unfold serialOf; rw [if_neg (by rw [tb_false hok]; simp)])
    clear hok
    have z0 := RZ2.out.cell 0
    have z1 := RZ2.out.cell 1
    have z2 := RZ2.out.cell 2
    have z3 := RZ2.out.cell 3
    have z4 := RZ2.out.cell 4
    have z5 := RZ2.out.cell 5
    have y0 := RZ2.out.frozen 0
    have y1 := RZ2.out.frozen 1
    have y2 := RZ2.out.frozen 2
    have y3 := RZ2.out.frozen 3
    have y4 := RZ2.out.frozen 4
    have y5 := RZ2.out.frozen 5
    go_wp2
    refine bodyPost_ret (ret_row rfl _ _ w.heap.size 45 [.bool false, .slice none 0 0, .slice none 0 0, .int .i64 0, .int .i64 0, .int .i64 0] (by exact (((((RZ2.out.set 0 _).set 1 _).set 2 _).set 3 _).set 4 _).set 5 _) _ rfl Try.underlying45 rfl (by kernel_rfl)) rfl ?_
    have HFIN := fun W (hgr : w2.grownBy W (some w.heap.size)) => show Below w.heap.size w W from B2.out.trans (below_of_grown hgr (Nat.le_refl _) B2.out.size)
    exact ⟨_, [], rfl, by rw [HR.out]; exact crewNone_ow _, New.nil _ _, HFIN _ (by (iterate 6 refine only_setCell ?_ (.inl rfl) _); exact grown_refl w2 _)⟩
end Go.Proofs.Ytpkjjfnfolbcoaa
