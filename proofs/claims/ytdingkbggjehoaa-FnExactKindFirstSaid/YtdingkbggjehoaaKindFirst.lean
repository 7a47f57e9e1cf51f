/-
  KindFirst of both.
-/
import Derived.Test.YtdingkbggjehoaaFirstW
import Derived.Test.YtdingkbggjehoaaFirstI
set_option linter.unusedVariables false
set_option linter.unusedSimpArgs false
namespace Go.Proofs.Ytdingkbggjehoaa
open Go.ChangeShapes Go.WideShapes Go.ChangeAt Go.RowKit

abbrev treeMk2 (t : Tree) : Value → Value → List Value := fun a b => [.int .i64 t.sort, .int .i64 t.num, .string t.text, a, b]

set_option maxRecDepth 100000 in
set_option maxHeartbeats 1000000 in
theorem specKindFirst_any (k : Kind) (us : List Value) (fp : List Nat) (w : World) (hk : OwC w k.cells us fp) (hf : Lt fp w.heap.size) (hbk : k.bulk ≤ 1048576) :
    Calls Try.prog 20 #[.agg us.toArray] w (FirstRet k.firstOf w) := by
  have HK := hide hk
  obtain ⟨A1, c1, A2, c2, f1, f2, rfl, w0, o1, o2, efp⟩ := hk.oKind
  clear hk o1 o2 efp
  have RK : Row ((w.alloc (.cells #[.int .i64 k.sort, .slice A1 k.names.length c1, .slice A2 k.kids.length c2] 30)).alloc (.cells #[.int .i64 0, .int .i64 0, .string .empty, .slice none 0 0, .slice none 0 0] 35)) w.heap.size 30 [.int .i64 k.sort, .slice A1 k.names.length c1, .slice A2 k.kids.length c2] := (Row.new w _ _).alloc _
  have RZ : Row ((w.alloc (.cells #[.int .i64 k.sort, .slice A1 k.names.length c1, .slice A2 k.kids.length c2] 30)).alloc (.cells #[.int .i64 0, .int .i64 0, .string .empty, .slice none 0 0, .slice none 0 0] 35)) (w.heap.size + 1) 35 [.int .i64 0, .int .i64 0, .string .empty, .slice none 0 0, .slice none 0 0] := by
    have h := Row.new (w.alloc (.cells #[.int .i64 k.sort, .slice A1 k.names.length c1, .slice A2 k.kids.length c2] 30)) 35 [.int .i64 0, .int .i64 0, .string .empty, .slice none 0 0, .slice none 0 0]
    rw [World.size_alloc] at h
    exact h
  have B0 := hide (show Below w.heap.size w ((w.alloc (.cells #[.int .i64 k.sort, .slice A1 k.names.length c1, .slice A2 k.kids.length c2] 30)).alloc (.cells #[.int .i64 0, .int .i64 0, .string .empty, .slice none 0 0, .slice none 0 0] 35)) from ((Below.refl _ w).alloc (Nat.le_refl _) _).alloc (by rw [World.size_alloc]; omega) _)
  go_enter Try.func20, Try.ntmps20
  go_wp2_with fail
  refine (specKindOk_any k _ _ _ (HK.out.below B0.out hf) (hf.up B0.out) hbk).mono ?_
  rintro e w2 ⟨rfl, hb2⟩
  have B2 := hide (B0.out.trans (hb2.mono B0.out.size))
  have RK2 := RK.below hb2 RK.lt
  have RZ2 := hide (RZ.below hb2 RZ.lt)
  clear RK RZ hb2
  have k0 := RK2.cell 0
  have k1 := RK2.cell 1
  have k2 := RK2.cell 2
  have lk := RK2.lt
  have lz := RZ2.out.lt
  by_cases hok : k.ok
  · rw [tb_true hok]
    have HG := hide hok
    have HR := hide (show k.firstOf = k.firstT from by unfold Kind.firstOf; rw [if_pos (tb_true hok)])
    clear hok
    go_wp2_with fail
    refine (firstW_any k _ _ 1 _ (HK.out.below B2.out hf) (hf.up B2.out) hbk HG.out.1).mono ?_
    rintro e w3 ⟨us, fq, rfl, ho3, hn3, hb3⟩
    obtain ⟨E1, e1, E2, e2, g1, g2, rfl, y0, y1, y2, z1, z2, efq⟩ := ho3.oTree
    have HO3 := hide ho3
    have HN3 := hide hn3
    have hnot : w.heap.size + 1 ∉ fq := fun hm => by have := (hn3.fr _ hm).1; omega
    have B3 := hide (B2.out.trans (hb3.mono B2.out.size))
    have RZ3 := hide (RZ2.out.below hb3 lz)
    clear ho3 hn3 hb3 z1 z2 RZ2 RK2 k0 k1 k2 lk lz efq
    have lz := RZ3.out.lt
    have q0 := RZ3.out.cell 0
    have y0f := RZ3.out.frozen 0
    have q1 := RZ3.out.cell 1
    have y1f := RZ3.out.frozen 1
    have q2 := RZ3.out.cell 2
    have y2f := RZ3.out.frozen 2
    have q3 := RZ3.out.cell 3
    have y3f := RZ3.out.frozen 3
    have q4 := RZ3.out.cell 4
    have y4f := RZ3.out.frozen 4
    go_wp2
    refine bodyPost_ret (ret_row rfl _ _ (w.heap.size + 1) 35 (treeMk2 k.firstT (.slice E1 k.firstT.names.length e1) (.slice E2 k.firstT.kids.length e2)) (RZ3.out.setAll (treeMk2 k.firstT (.slice E1 k.firstT.names.length e1) (.slice E2 k.firstT.kids.length e2)) rfl) _ rfl Try.underlying35 rfl (by kernel_rfl)) rfl ?_
    have hgr := setN_grown (treeMk2 k.firstT (.slice E1 k.firstT.names.length e1) (.slice E2 k.firstT.kids.length e2)) 0 (grown_refl w3 (some (w.heap.size + 1)))
    exact ⟨_, fq, rfl, by rw [HR.out]; exact HO3.out.grown hgr HN3.out.lt hnot, (HN3.out.grown hgr (fun g e => by injection e with e; subst e; exact hnot)).mono B2.out.size, B3.out.trans (below_of_grown hgr (Nat.le_succ _) B3.out.size)⟩
  · rw [tb_false hok]
    have HR := hide (show k.firstOf = Tree.none_ from by unfold Kind.firstOf; rw [if_neg (by rw [tb_false hok]; simp)])
    clear hok
    have q0 := RZ2.out.cell 0
    have y0f := RZ2.out.frozen 0
    have q1 := RZ2.out.cell 1
    have y1f := RZ2.out.frozen 1
    have q2 := RZ2.out.cell 2
    have y2f := RZ2.out.frozen 2
    have q3 := RZ2.out.cell 3
    have y3f := RZ2.out.frozen 3
    have q4 := RZ2.out.cell 4
    have y4f := RZ2.out.frozen 4
    go_wp2
    refine bodyPost_ret (ret_row rfl _ _ (w.heap.size + 1) 35 (treeMk 0 (.slice none 0 0) (.slice none 0 0)) (RZ2.out.setAll (treeMk 0 (.slice none 0 0) (.slice none 0 0)) rfl) _ rfl Try.underlying35 rfl (by kernel_rfl)) rfl ?_
    have hgr := setN_grown (treeMk 0 (.slice none 0 0) (.slice none 0 0)) 0 (grown_refl w2 (some (w.heap.size + 1)))
    exact ⟨_, [], rfl, by rw [HR.out]; exact treeNone_ow _, New.nil _ _, B2.out.trans (below_of_grown hgr (Nat.le_succ _) B2.out.size)⟩

set_option maxRecDepth 100000 in
set_option maxHeartbeats 1000000 in
theorem implKindFirst_any (k : Kind) (us : List Value) (fp : List Nat) (w : World) (hk : OwC w k.cells us fp) (hf : Lt fp w.heap.size) (hbk : k.bulk ≤ 1048576) :
    Calls Try.prog 21 #[.agg us.toArray] w (FirstRet k.firstOf w) := by
  have HK := hide hk
  obtain ⟨A1, c1, A2, c2, f1, f2, rfl, w0, o1, o2, efp⟩ := hk.oKind
  clear hk o1 o2 efp
  have RK : Row ((w.alloc (.cells #[.int .i64 k.sort, .slice A1 k.names.length c1, .slice A2 k.kids.length c2] 30)).alloc (.cells #[.int .i64 0, .int .i64 0, .string .empty, .slice none 0 0, .slice none 0 0] 35)) w.heap.size 30 [.int .i64 k.sort, .slice A1 k.names.length c1, .slice A2 k.kids.length c2] := (Row.new w _ _).alloc _
  have RZ : Row ((w.alloc (.cells #[.int .i64 k.sort, .slice A1 k.names.length c1, .slice A2 k.kids.length c2] 30)).alloc (.cells #[.int .i64 0, .int .i64 0, .string .empty, .slice none 0 0, .slice none 0 0] 35)) (w.heap.size + 1) 35 [.int .i64 0, .int .i64 0, .string .empty, .slice none 0 0, .slice none 0 0] := by
    have h := Row.new (w.alloc (.cells #[.int .i64 k.sort, .slice A1 k.names.length c1, .slice A2 k.kids.length c2] 30)) 35 [.int .i64 0, .int .i64 0, .string .empty, .slice none 0 0, .slice none 0 0]
    rw [World.size_alloc] at h
    exact h
  have B0 := hide (show Below w.heap.size w ((w.alloc (.cells #[.int .i64 k.sort, .slice A1 k.names.length c1, .slice A2 k.kids.length c2] 30)).alloc (.cells #[.int .i64 0, .int .i64 0, .string .empty, .slice none 0 0, .slice none 0 0] 35)) from ((Below.refl _ w).alloc (Nat.le_refl _) _).alloc (by rw [World.size_alloc]; omega) _)
  go_enter Try.func21, Try.ntmps21
  go_wp2_with fail
  refine (implKindOk_any k _ _ _ (HK.out.below B0.out hf) (hf.up B0.out) hbk).mono ?_
  rintro e w2 ⟨rfl, hb2⟩
  have B2 := hide (B0.out.trans (hb2.mono B0.out.size))
  have RK2 := RK.below hb2 RK.lt
  have RZ2 := hide (RZ.below hb2 RZ.lt)
  clear RK RZ hb2
  have k0 := RK2.cell 0
  have k1 := RK2.cell 1
  have k2 := RK2.cell 2
  have lk := RK2.lt
  have lz := RZ2.out.lt
  by_cases hok : k.ok
  · rw [tb_true hok]
    have HG := hide hok
    have HR := hide (show k.firstOf = k.firstT from by unfold Kind.firstOf; rw [if_pos (tb_true hok)])
    clear hok
    go_wp2_with fail
    refine (firstI_any k _ _ 1 _ (HK.out.below B2.out hf) (hf.up B2.out) hbk HG.out.1).mono ?_
    rintro e w3 ⟨us, fq, rfl, ho3, hn3, hb3⟩
    obtain ⟨E1, e1, E2, e2, g1, g2, rfl, y0, y1, y2, z1, z2, efq⟩ := ho3.oTree
    have HO3 := hide ho3
    have HN3 := hide hn3
    have hnot : w.heap.size + 1 ∉ fq := fun hm => by have := (hn3.fr _ hm).1; omega
    have B3 := hide (B2.out.trans (hb3.mono B2.out.size))
    have RZ3 := hide (RZ2.out.below hb3 lz)
    clear ho3 hn3 hb3 z1 z2 RZ2 RK2 k0 k1 k2 lk lz efq
    have lz := RZ3.out.lt
    have q0 := RZ3.out.cell 0
    have y0f := RZ3.out.frozen 0
    have q1 := RZ3.out.cell 1
    have y1f := RZ3.out.frozen 1
    have q2 := RZ3.out.cell 2
    have y2f := RZ3.out.frozen 2
    have q3 := RZ3.out.cell 3
    have y3f := RZ3.out.frozen 3
    have q4 := RZ3.out.cell 4
    have y4f := RZ3.out.frozen 4
    go_wp2
    refine bodyPost_ret (ret_row rfl _ _ (w.heap.size + 1) 35 (treeMk2 k.firstT (.slice E1 k.firstT.names.length e1) (.slice E2 k.firstT.kids.length e2)) (RZ3.out.setAll (treeMk2 k.firstT (.slice E1 k.firstT.names.length e1) (.slice E2 k.firstT.kids.length e2)) rfl) _ rfl Try.underlying35 rfl (by kernel_rfl)) rfl ?_
    have hgr := setN_grown (treeMk2 k.firstT (.slice E1 k.firstT.names.length e1) (.slice E2 k.firstT.kids.length e2)) 0 (grown_refl w3 (some (w.heap.size + 1)))
    exact ⟨_, fq, rfl, by rw [HR.out]; exact HO3.out.grown hgr HN3.out.lt hnot, (HN3.out.grown hgr (fun g e => by injection e with e; subst e; exact hnot)).mono B2.out.size, B3.out.trans (below_of_grown hgr (Nat.le_succ _) B3.out.size)⟩
  · rw [tb_false hok]
    have HR := hide (show k.firstOf = Tree.none_ from by unfold Kind.firstOf; rw [if_neg (by rw [tb_false hok]; simp)])
    clear hok
    have q0 := RZ2.out.cell 0
    have y0f := RZ2.out.frozen 0
    have q1 := RZ2.out.cell 1
    have y1f := RZ2.out.frozen 1
    have q2 := RZ2.out.cell 2
    have y2f := RZ2.out.frozen 2
    have q3 := RZ2.out.cell 3
    have y3f := RZ2.out.frozen 3
    have q4 := RZ2.out.cell 4
    have y4f := RZ2.out.frozen 4
    go_wp2
    refine bodyPost_ret (ret_row rfl _ _ (w.heap.size + 1) 35 (treeMk 0 (.slice none 0 0) (.slice none 0 0)) (RZ2.out.setAll (treeMk 0 (.slice none 0 0) (.slice none 0 0)) rfl) _ rfl Try.underlying35 rfl (by kernel_rfl)) rfl ?_
    have hgr := setN_grown (treeMk 0 (.slice none 0 0) (.slice none 0 0)) 0 (grown_refl w2 (some (w.heap.size + 1)))
    exact ⟨_, [], rfl, by rw [HR.out]; exact treeNone_ow _, New.nil _ _, B2.out.trans (below_of_grown hgr (Nat.le_succ _) B2.out.size)⟩
end Go.Proofs.Ytdingkbggjehoaa
