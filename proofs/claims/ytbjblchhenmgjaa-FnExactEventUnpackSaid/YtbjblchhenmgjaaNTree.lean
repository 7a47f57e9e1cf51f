/-
  The laws' marks at a Tree by value: only its slices are marked.
-/
import Derived.Test.YtbjblchhenmgjaaMark
import Derived.Test.YtbjblchhenmgjaaDTree
import Derived.Test.YtbjblchhenmgjaaMTree
set_option linter.unusedVariables false
set_option linter.unusedSimpArgs false
namespace Go.Proofs.Ytbjblchhenmgjaa
open Go.ChangeShapes Go.WideShapes Go.ChangeAt Go.RowKit
def Tree.mkTop (x : Tree) (a b : Nat) : Prop := ∃ e1, MkStringS x.names a e1 ∧ Tree.mkS x.kids e1 b
def Tree.cntTop (x : Tree) : Nat := x.names.length + Tree.cntS x.kids
theorem Tree.cntTop_eq (x : Tree) : x.cntTop = x.names.length + Tree.cntS x.kids := rfl
set_option maxRecDepth 100000 in
set_option maxHeartbeats 1000000 in
theorem markTree_any (x : Tree) (us : List Value) (fp : List Nat) (lo : Nat) (z : Int) (k0 : Nat) (w : World) (hz : z = k0) (ho : OwC w x.cells us fp) (hn : New w fp lo) (hb : k0 + x.cntTop ≤ 1099511627776) :
    Calls Try.prog 86 #[.agg us.toArray, .int .i64 z] w fun e w' => ∃ (x' : Tree), e = .returned (.int .i64 ((k0 + x.cntTop : Nat) : Int)) ∧ OwC w' x'.cells us fp ∧ x'.mkTop k0 (k0 + x.cntTop) ∧ Touch fp w w' := by
  subst hz
  have hc := x.cntTop_eq
  obtain ⟨A1, c1, A2, c2, f1, f2, rfl, w0, w1, w2, o1, o2, rfl⟩ := ho.oTree
  have hw0 : Below w.heap.size w (w.alloc (.cells #[.int .i64 x.sort, .int .i64 x.num, .string x.text, .slice A1 x.names.length c1, .slice A2 x.kids.length c2] 26)) := (Below.refl _ _).alloc (Nat.le_refl _) _
  have R0 : Row (w.alloc (.cells #[.int .i64 x.sort, .int .i64 x.num, .string x.text, .slice A1 x.names.length c1, .slice A2 x.kids.length c2] 26)) w.heap.size 26 [.int .i64 x.sort, .int .i64 x.num, .string x.text, .slice A1 x.names.length c1, .slice A2 x.kids.length c2] := Row.new w _ _
  have n1 := hn.left
  have r1 := hn.right
  have dj1 := (List.nodup_append.1 hn.nd).2.2
  have n2 := r1
  have O1 := hide (o1.below hw0 n1.lt)
  have N1 := hide (n1.alloc (.cells #[.int .i64 x.sort, .int .i64 x.num, .string x.text, .slice A1 x.names.length c1, .slice A2 x.kids.length c2] 26))
  have nb1 : w.heap.size ∉ f1 := fun h => Nat.lt_irrefl _ (n1.lt _ h)
  have O2 := hide (o2.below hw0 n2.lt)
  have N2 := hide (n2.alloc (.cells #[.int .i64 x.sort, .int .i64 x.num, .string x.text, .slice A1 x.names.length c1, .slice A2 x.kids.length c2] 26))
  have nb2 : w.heap.size ∉ f2 := fun h => Nat.lt_irrefl _ (n2.lt _ h)
  have dd1_2 : ∀ g ∈ f2, g ∉ f1 := fun g hg h => dj1 _ h _ hg rfl
  clear ho o1 o2 hn
  have T0 := hide (Touch.below (fp := f1 ++ (f2)) hw0)
  go_enter Try.func86, Try.ntmps86
  go_wp2_with fail
  refine (markStringS_any x.names _ _ _ f1 lo _ (k0) _ (by omega) O1.out N1.out (by omega)).mono ?_
  rintro e w1_ ⟨y1, rfl, yl1, yo1, ym1, t1⟩
  have T1 := hide (T0.out.trans (t1.mono (by intro g hg; simp [hg])))
  have YO1 := hide yo1
  have YM1 := hide ym1
  have YL1 := hide yl1
  clear yo1 ym1 yl1
  have R1 : Row w1_ w.heap.size 26 [.int .i64 x.sort, .int .i64 x.num, .string x.text, .slice A1 x.names.length c1, .slice A2 x.kids.length c2] := (t1.block _ R0.lt nb1).trans R0
  have O2 := hide (O2.out.touch t1 N2.out.lt dd1_2)
  have N2 := hide (t1.new N2.out)
  have M1 := hide (t1.new N1.out)
  clear t1
  have lt1 := R1.lt
  have cc1 := R1.cell 4
  go_wp2_with fail
  refine (markTreeS_any x.kids _ _ _ f2 lo _ ((k0) + x.names.length) _ (by omega) O2.out N2.out (by omega)).mono ?_
  rintro e w2_ ⟨y2, rfl, yl2, yo2, ym2, t2⟩
  have T2 := hide (T1.out.trans (t2.mono (by intro g hg; simp [hg])))
  have YO2 := hide yo2
  have YM2 := hide ym2
  have YL2 := hide yl2
  clear yo2 ym2 yl2
  have R2 : Row w2_ w.heap.size 26 [.int .i64 x.sort, .int .i64 x.num, .string x.text, .slice A1 x.names.length c1, .slice A2 x.kids.length c2] := (t2.block _ R1.lt nb2).trans R1
  have YO1 := hide (YO1.out.touch t2 M1.out.lt (fun g hg h => dd1_2 g h hg))
  have M1 := hide (t2.new M1.out)
  have M2 := hide (t2.new N2.out)
  clear t2
  have lt2 := R2.lt
  go_wp2
  go_ret
  refine ⟨(Tree.mk x.sort x.num x.text y1 y2), ret_int (by omega), OwC.mTree w0 w1 w2 YO1.out YO2.out, ?_, ?_⟩
  · refine ⟨_, YM1.out, ?_⟩
    have h := YM2.out
    rw [hc]
    (try simp only [Nat.add_assoc] at h)
    (try simp only [Nat.add_assoc])
    exact h
  · exact T2.out
set_option maxRecDepth 100000 in
set_option maxHeartbeats 1000000 in
theorem heldTree_any (x : Tree) (us : List Value) (fp : List Nat) (z : Int) (a b : Nat) (w : World) (hz : z = a) (ho : OwC w x.cells us fp) (hf : Lt fp w.heap.size) (hmk : x.mkTop a b) (hb : b ≤ 1099511627776) :
    Calls Try.prog 87 #[.agg us.toArray, .int .i64 z] w fun e w' => e = .returned (.int .i64 (b : Nat)) ∧ Below w.heap.size w w' := by
  subst hz
  obtain ⟨A1, c1, A2, c2, f1, f2, rfl, w0, w1, w2, o1, o2, rfl⟩ := ho.oTree
  obtain ⟨e1, m1, m2⟩ := hmk
  have hw0 : Below w.heap.size w (w.alloc (.cells #[.int .i64 x.sort, .int .i64 x.num, .string x.text, .slice A1 x.names.length c1, .slice A2 x.kids.length c2] 26)) := (Below.refl _ _).alloc (Nat.le_refl _) _
  have R0 : Row (w.alloc (.cells #[.int .i64 x.sort, .int .i64 x.num, .string x.text, .slice A1 x.names.length c1, .slice A2 x.kids.length c2] 26)) w.heap.size 26 [.int .i64 x.sort, .int .i64 x.num, .string x.text, .slice A1 x.names.length c1, .slice A2 x.kids.length c2] := Row.new w _ _
  have fl1 := hf.left
  have fl2 := (hf).right
  have le2 := Tree.mkS_le _ _ _ m2
  have le1 : a ≤ e1 := by have := m1.1; omega
  have O1 := hide o1
  have HM1 := hide m1
  have O2 := hide o2
  have HM2 := hide m2
  have B0 := hide hw0
  clear ho hf hw0 o1 m1 o2 m2
  go_enter Try.func87, Try.ntmps87
  go_wp2_with fail
  refine (heldStringS_any x.names _ _ _ f1 _ a e1 _ (by omega) (O1.out.below B0.out fl1) (fl1.up B0.out) HM1.out (by omega)).mono ?_
  rintro e w1_ ⟨rfl, hb1⟩
  have B1 := hide (B0.out.trans (hb1.mono B0.out.size))
  have R1 := R0.below hb1 R0.lt
  have lt1 := R1.lt
  have cc1 := R1.cell 4
  clear hb1
  go_wp2_with fail
  refine (heldTreeS_any x.kids _ _ _ f2 _ e1 b _ (by omega) (O2.out.below B1.out fl2) (fl2.up B1.out) HM2.out (by omega)).mono ?_
  rintro e w2_ ⟨rfl, hb2⟩
  have B2 := hide (B1.out.trans (hb2.mono B1.out.size))
  have R2 := R1.below hb2 R1.lt
  have lt2 := R2.lt
  clear hb2
  go_wp2
  go_ret
  exact ⟨rfl, B2.out⟩
end Go.Proofs.Ytbjblchhenmgjaa
