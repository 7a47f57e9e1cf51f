/-
  The laws' marks at a Disk by value: only its slices are marked.
-/
import Derived.Test.YtdingkbggjehoaaMark
import Derived.Test.YtdingkbggjehoaaDDisk
import Derived.Test.YtdingkbggjehoaaMDiskFile
import Derived.Test.YtdingkbggjehoaaMDiskMove
set_option linter.unusedVariables false
set_option linter.unusedSimpArgs false
namespace Go.Proofs.Ytdingkbggjehoaa
open Go.ChangeShapes Go.WideShapes Go.ChangeAt Go.RowKit
def Disk.mkTop (x : Disk) (a b : Nat) : Prop := ∃ e1 e2, DiskFile.mkS x.files a e1 ∧ MkStringS x.names e1 e2 ∧ DiskMove.mkS x.moves e2 b
def Disk.cntTop (x : Disk) : Nat := DiskFile.cntS x.files + x.names.length + DiskMove.cntS x.moves
theorem Disk.cntTop_eq (x : Disk) : x.cntTop = DiskFile.cntS x.files + x.names.length + DiskMove.cntS x.moves := rfl
set_option maxRecDepth 100000 in
set_option maxHeartbeats 1000000 in
theorem markDisk_any (x : Disk) (us : List Value) (fp : List Nat) (lo : Nat) (z : Int) (k0 : Nat) (w : World) (hz : z = k0) (ho : OwC w x.cells us fp) (hn : New w fp lo) (hb : k0 + x.cntTop ≤ 1099511627776) :
    Calls Try.prog 57 #[.agg us.toArray, .int .i64 z] w fun e w' => ∃ (x' : Disk), e = .returned (.int .i64 ((k0 + x.cntTop : Nat) : Int)) ∧ OwC w' x'.cells us fp ∧ x'.mkTop k0 (k0 + x.cntTop) ∧ Touch fp w w' := by
  subst hz
  have hc := x.cntTop_eq
  obtain ⟨A1, c1, A2, c2, A3, c3, f1, f2, f3, rfl, o1, o2, o3, rfl⟩ := ho.oDisk
  have hw0 : Below w.heap.size w (w.alloc (.cells #[.slice A1 x.files.length c1, .slice A2 x.names.length c2, .slice A3 x.moves.length c3] 83)) := (Below.refl _ _).alloc (Nat.le_refl _) _
  have R0 : Row (w.alloc (.cells #[.slice A1 x.files.length c1, .slice A2 x.names.length c2, .slice A3 x.moves.length c3] 83)) w.heap.size 83 [.slice A1 x.files.length c1, .slice A2 x.names.length c2, .slice A3 x.moves.length c3] := Row.new w _ _
  have n1 := hn.left
  have r1 := hn.right
  have dj1 := (List.nodup_append.1 hn.nd).2.2
  have n2 := r1.left
  have r2 := r1.right
  have dj2 := (List.nodup_append.1 r1.nd).2.2
  have n3 := r2
  have O1 := hide (o1.below hw0 n1.lt)
  have N1 := hide (n1.alloc (.cells #[.slice A1 x.files.length c1, .slice A2 x.names.length c2, .slice A3 x.moves.length c3] 83))
  have nb1 : w.heap.size ∉ f1 := fun h => Nat.lt_irrefl _ (n1.lt _ h)
  have O2 := hide (o2.below hw0 n2.lt)
  have N2 := hide (n2.alloc (.cells #[.slice A1 x.files.length c1, .slice A2 x.names.length c2, .slice A3 x.moves.length c3] 83))
  have nb2 : w.heap.size ∉ f2 := fun h => Nat.lt_irrefl _ (n2.lt _ h)
  have O3 := hide (o3.below hw0 n3.lt)
  have N3 := hide (n3.alloc (.cells #[.slice A1 x.files.length c1, .slice A2 x.names.length c2, .slice A3 x.moves.length c3] 83))
  have nb3 : w.heap.size ∉ f3 := fun h => Nat.lt_irrefl _ (n3.lt _ h)
  have dd1_2 : ∀ g ∈ f2, g ∉ f1 := fun g hg h => dj1 _ h _ (List.mem_append_left _ hg) rfl
  have dd1_3 : ∀ g ∈ f3, g ∉ f1 := fun g hg h => dj1 _ h _ (List.mem_append_right _ hg) rfl
  have dd2_3 : ∀ g ∈ f3, g ∉ f2 := fun g hg h => dj2 _ h _ hg rfl
  clear ho o1 o2 o3 hn
  have T0 := hide (Touch.below (fp := f1 ++ (f2 ++ (f3))) hw0)
  go_enter Try.func57, Try.ntmps57
  go_wp2_with fail
  refine (markDiskFileS_any x.files _ _ _ f1 lo _ (k0) _ (by omega) O1.out N1.out (by omega)).mono ?_
  rintro e w1_ ⟨y1, rfl, yl1, yo1, ym1, t1⟩
  have T1 := hide (T0.out.trans (t1.mono (by intro g hg; simp [hg])))
  have YO1 := hide yo1
  have YM1 := hide ym1
  have YL1 := hide yl1
  clear yo1 ym1 yl1
  have R1 : Row w1_ w.heap.size 83 [.slice A1 x.files.length c1, .slice A2 x.names.length c2, .slice A3 x.moves.length c3] := (t1.block _ R0.lt nb1).trans R0
  have O2 := hide (O2.out.touch t1 N2.out.lt dd1_2)
  have N2 := hide (t1.new N2.out)
  have O3 := hide (O3.out.touch t1 N3.out.lt dd1_3)
  have N3 := hide (t1.new N3.out)
  have M1 := hide (t1.new N1.out)
  clear t1
  have lt1 := R1.lt
  have cc1 := R1.cell 1
  go_wp2_with fail
  refine (markStringS_any x.names _ _ _ f2 lo _ ((k0) + DiskFile.cntS x.files) _ (by omega) O2.out N2.out (by omega)).mono ?_
  rintro e w2_ ⟨y2, rfl, yl2, yo2, ym2, t2⟩
  have T2 := hide (T1.out.trans (t2.mono (by intro g hg; simp [hg])))
  have YO2 := hide yo2
  have YM2 := hide ym2
  have YL2 := hide yl2
  clear yo2 ym2 yl2
  have R2 : Row w2_ w.heap.size 83 [.slice A1 x.files.length c1, .slice A2 x.names.length c2, .slice A3 x.moves.length c3] := (t2.block _ R1.lt nb2).trans R1
  have O3 := hide (O3.out.touch t2 N3.out.lt dd2_3)
  have N3 := hide (t2.new N3.out)
  have YO1 := hide (YO1.out.touch t2 M1.out.lt (fun g hg h => dd1_2 g h hg))
  have M1 := hide (t2.new M1.out)
  have M2 := hide (t2.new N2.out)
  clear t2
  have lt2 := R2.lt
  have cc2 := R2.cell 2
  go_wp2_with fail
  refine (markDiskMoveS_any x.moves _ _ _ f3 lo _ (((k0) + DiskFile.cntS x.files) + x.names.length) _ (by omega) O3.out N3.out (by omega)).mono ?_
  rintro e w3_ ⟨y3, rfl, yl3, yo3, ym3, t3⟩
  have T3 := hide (T2.out.trans (t3.mono (by intro g hg; simp [hg])))
  have YO3 := hide yo3
  have YM3 := hide ym3
  have YL3 := hide yl3
  clear yo3 ym3 yl3
  have R3 : Row w3_ w.heap.size 83 [.slice A1 x.files.length c1, .slice A2 x.names.length c2, .slice A3 x.moves.length c3] := (t3.block _ R2.lt nb3).trans R2
  have YO1 := hide (YO1.out.touch t3 M1.out.lt (fun g hg h => dd1_3 g h hg))
  have M1 := hide (t3.new M1.out)
  have YO2 := hide (YO2.out.touch t3 M2.out.lt (fun g hg h => dd2_3 g h hg))
  have M2 := hide (t3.new M2.out)
  have M3 := hide (t3.new N3.out)
  clear t3
  have lt3 := R3.lt
  go_wp2
  go_ret
  refine ⟨(Disk.mk y1 y2 y3), ret_int (by omega), OwC.mDisk YO1.out YO2.out YO3.out, ?_, ?_⟩
  · refine ⟨_, _, YM1.out, YM2.out, ?_⟩
    have h := YM3.out
    rw [hc]
    (try simp only [Nat.add_assoc] at h)
    (try simp only [Nat.add_assoc])
    exact h
  · exact T3.out
set_option maxRecDepth 100000 in
set_option maxHeartbeats 1000000 in
theorem heldDisk_any (x : Disk) (us : List Value) (fp : List Nat) (z : Int) (a b : Nat) (w : World) (hz : z = a) (ho : OwC w x.cells us fp) (hf : Lt fp w.heap.size) (hmk : x.mkTop a b) (hb : b ≤ 1099511627776) :
    Calls Try.prog 67 #[.agg us.toArray, .int .i64 z] w fun e w' => e = .returned (.int .i64 (b : Nat)) ∧ Below w.heap.size w w' := by
  subst hz
  obtain ⟨A1, c1, A2, c2, A3, c3, f1, f2, f3, rfl, o1, o2, o3, rfl⟩ := ho.oDisk
  obtain ⟨e1, e2, m1, m2, m3⟩ := hmk
  have hw0 : Below w.heap.size w (w.alloc (.cells #[.slice A1 x.files.length c1, .slice A2 x.names.length c2, .slice A3 x.moves.length c3] 83)) := (Below.refl _ _).alloc (Nat.le_refl _) _
  have R0 : Row (w.alloc (.cells #[.slice A1 x.files.length c1, .slice A2 x.names.length c2, .slice A3 x.moves.length c3] 83)) w.heap.size 83 [.slice A1 x.files.length c1, .slice A2 x.names.length c2, .slice A3 x.moves.length c3] := Row.new w _ _
  have fl1 := hf.left
  have fl2 := (hf).right.left
  have fl3 := ((hf).right).right
  have le3 := DiskMove.mkS_le _ _ _ m3
  have le2 : e1 ≤ e2 := by have := m2.1; omega
  have le1 := DiskFile.mkS_le _ _ _ m1
  have O1 := hide o1
  have HM1 := hide m1
  have O2 := hide o2
  have HM2 := hide m2
  have O3 := hide o3
  have HM3 := hide m3
  have B0 := hide hw0
  clear ho hf hw0 o1 m1 o2 m2 o3 m3
  go_enter Try.func67, Try.ntmps67
  go_wp2_with fail
  refine (heldDiskFileS_any x.files _ _ _ f1 _ a e1 _ (by omega) (O1.out.below B0.out fl1) (fl1.up B0.out) HM1.out (by omega)).mono ?_
  rintro e w1_ ⟨rfl, hb1⟩
  have B1 := hide (B0.out.trans (hb1.mono B0.out.size))
  have R1 := R0.below hb1 R0.lt
  have lt1 := R1.lt
  have cc1 := R1.cell 1
  clear hb1
  go_wp2_with fail
  refine (heldStringS_any x.names _ _ _ f2 _ e1 e2 _ (by omega) (O2.out.below B1.out fl2) (fl2.up B1.out) HM2.out (by omega)).mono ?_
  rintro e w2_ ⟨rfl, hb2⟩
  have B2 := hide (B1.out.trans (hb2.mono B1.out.size))
  have R2 := R1.below hb2 R1.lt
  have lt2 := R2.lt
  have cc2 := R2.cell 2
  clear hb2
  go_wp2_with fail
  refine (heldDiskMoveS_any x.moves _ _ _ f3 _ e2 b _ (by omega) (O3.out.below B2.out fl3) (fl3.up B2.out) HM3.out (by omega)).mono ?_
  rintro e w3_ ⟨rfl, hb3⟩
  have B3 := hide (B2.out.trans (hb3.mono B2.out.size))
  have R3 := R2.below hb3 R2.lt
  have lt3 := R3.lt
  clear hb3
  go_wp2
  go_ret
  exact ⟨rfl, B3.out⟩
end Go.Proofs.Ytdingkbggjehoaa
