/-
  The laws' marks at a CrewWorld by value: only its slices are marked.
-/
import Derived.Test.YtpkjjfnfolbcoaaMark
import Derived.Test.YtpkjjfnfolbcoaaDCrewWorld
import Derived.Test.YtpkjjfnfolbcoaaMCrewHand
set_option linter.unusedVariables false
set_option linter.unusedSimpArgs false
namespace Go.Proofs.Ytpkjjfnfolbcoaa
open Go.ChangeShapes Go.WideShapes Go.ChangeAt Go.RowKit
def CrewWorld.mkTop (x : CrewWorld) (a b : Nat) : Prop := ∃ e1 e2 e3 e4 e5 e6, MkIntS x.queue a e1 ∧ CrewHand.mkS x.hands e1 e2 ∧ MkIntS x.results e2 e3 ∧ MkIntS x.ring e3 e4 ∧ MkIntS x.out e4 e5 ∧ MkIntS x.got e5 e6 ∧ MkIntS x.shut e6 b
def CrewWorld.cntTop (x : CrewWorld) : Nat := x.queue.length + CrewHand.cntS x.hands + x.results.length + x.ring.length + x.out.length + x.got.length + x.shut.length
theorem CrewWorld.cntTop_eq (x : CrewWorld) : x.cntTop = x.queue.length + CrewHand.cntS x.hands + x.results.length + x.ring.length + x.out.length + x.got.length + x.shut.length := rfl
set_option maxRecDepth 100000 in
set_option maxHeartbeats 1000000 in
theorem markCrewWorld_any (x : CrewWorld) (us : List Value) (fp : List Nat) (lo : Nat) (z : Int) (k0 : Nat) (w : World) (hz : z = k0) (ho : OwC w x.cells us fp) (hn : New w fp lo) (hb : k0 + x.cntTop ≤ 1099511627776) :
    Calls Try.prog 40 #[.agg us.toArray, .int .i64 z] w fun e w' => ∃ (x' : CrewWorld), e = .returned (.int .i64 ((k0 + x.cntTop : Nat) : Int)) ∧ OwC w' x'.cells us fp ∧ x'.mkTop k0 (k0 + x.cntTop) ∧ Touch fp w w' := by
  subst hz
  have hc := x.cntTop_eq
  obtain ⟨A1, c1, A2, c2, A3, c3, A4, c4, A5, c5, A6, c6, A7, c7, f1, f2, f3, f4, f5, f6, f7, rfl, w0, w1, w2, w3, w4, o1, o2, w7, o3, w9, o4, w11, o5, w13, o6, w15, o7, w17, rfl⟩ := ho.oCrewWorld
  have hw0 : Below w.heap.size w (w.alloc (.cells #[.int .i64 x.jobs, .int .i64 x.workers, .int .i64 x.window, .int .i64 x.next, .int .i64 x.reader, .slice A1 x.queue.length c1, .slice A2 x.hands.length c2, .int .i64 x.closer, .slice A3 x.results.length c3, .int .i64 x.keeper, .slice A4 x.ring.length c4, .int .i64 x.due, .slice A5 x.out.length c5, .int .i64 x.user, .slice A6 x.got.length c6, .int .i64 x.room, .slice A7 x.shut.length c7, .int .i64 x.ops] 30)) := (Below.refl _ _).alloc (Nat.le_refl _) _
  have R0 : Row (w.alloc (.cells #[.int .i64 x.jobs, .int .i64 x.workers, .int .i64 x.window, .int .i64 x.next, .int .i64 x.reader, .slice A1 x.queue.length c1, .slice A2 x.hands.length c2, .int .i64 x.closer, .slice A3 x.results.length c3, .int .i64 x.keeper, .slice A4 x.ring.length c4, .int .i64 x.due, .slice A5 x.out.length c5, .int .i64 x.user, .slice A6 x.got.length c6, .int .i64 x.room, .slice A7 x.shut.length c7, .int .i64 x.ops] 30)) w.heap.size 30 [.int .i64 x.jobs, .int .i64 x.workers, .int .i64 x.window, .int .i64 x.next, .int .i64 x.reader, .slice A1 x.queue.length c1, .slice A2 x.hands.length c2, .int .i64 x.closer, .slice A3 x.results.length c3, .int .i64 x.keeper, .slice A4 x.ring.length c4, .int .i64 x.due, .slice A5 x.out.length c5, .int .i64 x.user, .slice A6 x.got.length c6, .int .i64 x.room, .slice A7 x.shut.length c7, .int .i64 x.ops] := Row.new w _ _
  have n1 := hn.left
  have r1 := hn.right
  have dj1 := (List.nodup_append.1 hn.nd).2.2
  have n2 := r1.left
  have r2 := r1.right
  have dj2 := (List.nodup_append.1 r1.nd).2.2
  have n3 := r2.left
  have r3 := r2.right
  have dj3 := (List.nodup_append.1 r2.nd).2.2
  have n4 := r3.left
  have r4 := r3.right
  have dj4 := (List.nodup_append.1 r3.nd).2.2
  have n5 := r4.left
  have r5 := r4.right
  have dj5 := (List.nodup_append.1 r4.nd).2.2
  have n6 := r5.left
  have r6 := r5.right
  have dj6 := (List.nodup_append.1 r5.nd).2.2
  have n7 := r6
  have O1 := hide (o1.below hw0 n1.lt)
  have N1 := hide (n1.alloc (.cells #[.int .i64 x.jobs, .int .i64 x.workers, .int .i64 x.window, .int .i64 x.next, .int .i64 x.reader, .slice A1 x.queue.length c1, .slice A2 x.hands.length c2, .int .i64 x.closer, .slice A3 x.results.length c3, .int .i64 x.keeper, .slice A4 x.ring.length c4, .int .i64 x.due, .slice A5 x.out.length c5, .int .i64 x.user, .slice A6 x.got.length c6, .int .i64 x.room, .slice A7 x.shut.length c7, .int .i64 x.ops] 30))
  have nb1 : w.heap.size ∉ f1 := fun h => Nat.lt_irrefl _ (n1.lt _ h)
  have O2 := hide (o2.below hw0 n2.lt)
  have N2 := hide (n2.alloc (.cells #[.int .i64 x.jobs, .int .i64 x.workers, .int .i64 x.window, .int .i64 x.next, .int .i64 x.reader, .slice A1 x.queue.length c1, .slice A2 x.hands.length c2, .int .i64 x.closer, .slice A3 x.results.length c3, .int .i64 x.keeper, .slice A4 x.ring.length c4, .int .i64 x.due, .slice A5 x.out.length c5, .int .i64 x.user, .slice A6 x.got.length c6, .int .i64 x.room, .slice A7 x.shut.length c7, .int .i64 x.ops] 30))
  have nb2 : w.heap.size ∉ f2 := fun h => Nat.lt_irrefl _ (n2.lt _ h)
  have O3 := hide (o3.below hw0 n3.lt)
  have N3 := hide (n3.alloc (.cells #[.int .i64 x.jobs, .int .i64 x.workers, .int .i64 x.window, .int .i64 x.next, .int .i64 x.reader, .slice A1 x.queue.length c1, .slice A2 x.hands.length c2, .int .i64 x.closer, .slice A3 x.results.length c3, .int .i64 x.keeper, .slice A4 x.ring.length c4, .int .i64 x.due, .slice A5 x.out.length c5, .int .i64 x.user, .slice A6 x.got.length c6, .int .i64 x.room, .slice A7 x.shut.length c7, .int .i64 x.ops] 30))
  have nb3 : w.heap.size ∉ f3 := fun h => Nat.lt_irrefl _ (n3.lt _ h)
  have O4 := hide (o4.below hw0 n4.lt)
  have N4 := hide (n4.alloc (.cells #[.int .i64 x.jobs, .int .i64 x.workers, .int .i64 x.window, .int .i64 x.next, .int .i64 x.reader, .slice A1 x.queue.length c1, .slice A2 x.hands.length c2, .int .i64 x.closer, .slice A3 x.results.length c3, .int .i64 x.keeper, .slice A4 x.ring.length c4, .int .i64 x.due, .slice A5 x.out.length c5, .int .i64 x.user, .slice A6 x.got.length c6, .int .i64 x.room, .slice A7 x.shut.length c7, .int .i64 x.ops] 30))
  have nb4 : w.heap.size ∉ f4 := fun h => Nat.lt_irrefl _ (n4.lt _ h)
  have O5 := hide (o5.below hw0 n5.lt)
  have N5 := hide (n5.alloc (.cells #[.int .i64 x.jobs, .int .i64 x.workers, .int .i64 x.window, .int .i64 x.next, .int .i64 x.reader, .slice A1 x.queue.length c1, .slice A2 x.hands.length c2, .int .i64 x.closer, .slice A3 x.results.length c3, .int .i64 x.keeper, .slice A4 x.ring.length c4, .int .i64 x.due, .slice A5 x.out.length c5, .int .i64 x.user, .slice A6 x.got.length c6, .int .i64 x.room, .slice A7 x.shut.length c7, .int .i64 x.ops] 30))
  have nb5 : w.heap.size ∉ f5 := fun h => Nat.lt_irrefl _ (n5.lt _ h)
  have O6 := hide (o6.below hw0 n6.lt)
  have N6 := hide (n6.alloc (.cells #[.int .i64 x.jobs, .int .i64 x.workers, .int .i64 x.window, .int .i64 x.next, .int .i64 x.reader, .slice A1 x.queue.length c1, .slice A2 x.hands.length c2, .int .i64 x.closer, .slice A3 x.results.length c3, .int .i64 x.keeper, .slice A4 x.ring.length c4, .int .i64 x.due, .slice A5 x.out.length c5, .int .i64 x.user, .slice A6 x.got.length c6, .int .i64 x.room, .slice A7 x.shut.length c7, .int .i64 x.ops] 30))
  have nb6 : w.heap.size ∉ f6 := fun h => Nat.lt_irrefl _ (n6.lt _ h)
  have O7 := hide (o7.below hw0 n7.lt)
  have N7 := hide (n7.alloc (.cells #[.int .i64 x.jobs, .int .i64 x.workers, .int .i64 x.window, .int .i64 x.next, .int .i64 x.reader, .slice A1 x.queue.length c1, .slice A2 x.hands.length c2, .int .i64 x.closer, .slice A3 x.results.length c3, .int .i64 x.keeper, .slice A4 x.ring.length c4, .int .i64 x.due, .slice A5 x.out.length c5, .int .i64 x.user, .slice A6 x.got.length c6, .int .i64 x.room, .slice A7 x.shut.length c7, .int .i64 x.ops] 30))
  have nb7 : w.heap.size ∉ f7 := fun h => Nat.lt_irrefl _ (n7.lt _ h)
  have dd1_2 : ∀ g ∈ f2, g ∉ f1 := fun g hg h => dj1 _ h _ (List.mem_append_left _ hg) rfl
  have dd1_3 : ∀ g ∈ f3, g ∉ f1 := fun g hg h => dj1 _ h _ (List.mem_append_right _ (List.mem_append_left _ hg)) rfl
  have dd1_4 : ∀ g ∈ f4, g ∉ f1 := fun g hg h => dj1 _ h _ (List.mem_append_right _ (List.mem_append_right _ (List.mem_append_left _ hg))) rfl
  have dd1_5 : ∀ g ∈ f5, g ∉ f1 := fun g hg h => dj1 _ h _ (List.mem_append_right _ (List.mem_append_right _ (List.mem_append_right _ (List.mem_append_left _ hg)))) rfl
  have dd1_6 : ∀ g ∈ f6, g ∉ f1 := fun g hg h => dj1 _ h _ (List.mem_append_right _ (List.mem_append_right _ (List.mem_append_right _ (List.mem_append_right _ (List.mem_append_left _ hg))))) rfl
  have dd1_7 : ∀ g ∈ f7, g ∉ f1 := fun g hg h => dj1 _ h _ (List.mem_append_right _ (List.mem_append_right _ (List.mem_append_right _ (List.mem_append_right _ (List.mem_append_right _ hg))))) rfl
  have dd2_3 : ∀ g ∈ f3, g ∉ f2 := fun g hg h => dj2 _ h _ (List.mem_append_left _ hg) rfl
  have dd2_4 : ∀ g ∈ f4, g ∉ f2 := fun g hg h => dj2 _ h _ (List.mem_append_right _ (List.mem_append_left _ hg)) rfl
  have dd2_5 : ∀ g ∈ f5, g ∉ f2 := fun g hg h => dj2 _ h _ (List.mem_append_right _ (List.mem_append_right _ (List.mem_append_left _ hg))) rfl
  have dd2_6 : ∀ g ∈ f6, g ∉ f2 := fun g hg h => dj2 _ h _ (List.mem_append_right _ (List.mem_append_right _ (List.mem_append_right _ (List.mem_append_left _ hg)))) rfl
  have dd2_7 : ∀ g ∈ f7, g ∉ f2 := fun g hg h => dj2 _ h _ (List.mem_append_right _ (List.mem_append_right _ (List.mem_append_right _ (List.mem_append_right _ hg)))) rfl
  have dd3_4 : ∀ g ∈ f4, g ∉ f3 := fun g hg h => dj3 _ h _ (List.mem_append_left _ hg) rfl
  have dd3_5 : ∀ g ∈ f5, g ∉ f3 := fun g hg h => dj3 _ h _ (List.mem_append_right _ (List.mem_append_left _ hg)) rfl
  have dd3_6 : ∀ g ∈ f6, g ∉ f3 := fun g hg h => dj3 _ h _ (List.mem_append_right _ (List.mem_append_right _ (List.mem_append_left _ hg))) rfl
  have dd3_7 : ∀ g ∈ f7, g ∉ f3 := fun g hg h => dj3 _ h _ (List.mem_append_right _ (List.mem_append_right _ (List.mem_append_right _ hg))) rfl
  have dd4_5 : ∀ g ∈ f5, g ∉ f4 := fun g hg h => dj4 _ h _ (List.mem_append_left _ hg) rfl
  have dd4_6 : ∀ g ∈ f6, g ∉ f4 := fun g hg h => dj4 _ h _ (List.mem_append_right _ (List.mem_append_left _ hg)) rfl
  have dd4_7 : ∀ g ∈ f7, g ∉ f4 := fun g hg h => dj4 _ h _ (List.mem_append_right _ (List.mem_append_right _ hg)) rfl
  have dd5_6 : ∀ g ∈ f6, g ∉ f5 := fun g hg h => dj5 _ h _ (List.mem_append_left _ hg) rfl
  have dd5_7 : ∀ g ∈ f7, g ∉ f5 := fun g hg h => dj5 _ h _ (List.mem_append_right _ hg) rfl
  have dd6_7 : ∀ g ∈ f7, g ∉ f6 := fun g hg h => dj6 _ h _ hg rfl
  clear ho o1 o2 o3 o4 o5 o6 o7 hn
  have T0 := hide (Touch.below (fp := f1 ++ (f2 ++ (f3 ++ (f4 ++ (f5 ++ (f6 ++ (f7))))))) hw0)
  go_enter Try.func40, Try.ntmps40
  go_wp2_with fail
  refine (markIntS_any x.queue _ _ _ f1 lo _ (k0) _ (by omega) O1.out N1.out (by omega)).mono ?_
  rintro e w1_ ⟨y1, rfl, yl1, yo1, ym1, t1⟩
  have T1 := hide (T0.out.trans (t1.mono (by intro g hg; simp [hg])))
  have YO1 := hide yo1
  have YM1 := hide ym1
  have YL1 := hide yl1
  clear yo1 ym1 yl1
  have R1 : Row w1_ w.heap.size 30 [.int .i64 x.jobs, .int .i64 x.workers, .int .i64 x.window, .int .i64 x.next, .int .i64 x.reader, .slice A1 x.queue.length c1, .slice A2 x.hands.length c2, .int .i64 x.closer, .slice A3 x.results.length c3, .int .i64 x.keeper, .slice A4 x.ring.length c4, .int .i64 x.due, .slice A5 x.out.length c5, .int .i64 x.user, .slice A6 x.got.length c6, .int .i64 x.room, .slice A7 x.shut.length c7, .int .i64 x.ops] := (t1.block _ R0.lt nb1).trans R0
  have O2 := hide (O2.out.touch t1 N2.out.lt dd1_2)
  have N2 := hide (t1.new N2.out)
  have O3 := hide (O3.out.touch t1 N3.out.lt dd1_3)
  have N3 := hide (t1.new N3.out)
  have O4 := hide (O4.out.touch t1 N4.out.lt dd1_4)
  have N4 := hide (t1.new N4.out)
  have O5 := hide (O5.out.touch t1 N5.out.lt dd1_5)
  have N5 := hide (t1.new N5.out)
  have O6 := hide (O6.out.touch t1 N6.out.lt dd1_6)
  have N6 := hide (t1.new N6.out)
  have O7 := hide (O7.out.touch t1 N7.out.lt dd1_7)
  have N7 := hide (t1.new N7.out)
  have M1 := hide (t1.new N1.out)
  clear t1
  have lt1 := R1.lt
  have cc1 := R1.cell 6
  go_wp2_with fail
  refine (markCrewHandS_any x.hands _ _ _ f2 lo _ ((k0) + x.queue.length) _ (by omega) O2.out N2.out (by omega)).mono ?_
  rintro e w2_ ⟨y2, rfl, yl2, yo2, ym2, t2⟩
  have T2 := hide (T1.out.trans (t2.mono (by intro g hg; simp [hg])))
  have YO2 := hide yo2
  have YM2 := hide ym2
  have YL2 := hide yl2
  clear yo2 ym2 yl2
  have R2 : Row w2_ w.heap.size 30 [.int .i64 x.jobs, .int .i64 x.workers, .int .i64 x.window, .int .i64 x.next, .int .i64 x.reader, .slice A1 x.queue.length c1, .slice A2 x.hands.length c2, .int .i64 x.closer, .slice A3 x.results.length c3, .int .i64 x.keeper, .slice A4 x.ring.length c4, .int .i64 x.due, .slice A5 x.out.length c5, .int .i64 x.user, .slice A6 x.got.length c6, .int .i64 x.room, .slice A7 x.shut.length c7, .int .i64 x.ops] := (t2.block _ R1.lt nb2).trans R1
  have O3 := hide (O3.out.touch t2 N3.out.lt dd2_3)
  have N3 := hide (t2.new N3.out)
  have O4 := hide (O4.out.touch t2 N4.out.lt dd2_4)
  have N4 := hide (t2.new N4.out)
  have O5 := hide (O5.out.touch t2 N5.out.lt dd2_5)
  have N5 := hide (t2.new N5.out)
  have O6 := hide (O6.out.touch t2 N6.out.lt dd2_6)
  have N6 := hide (t2.new N6.out)
  have O7 := hide (O7.out.touch t2 N7.out.lt dd2_7)
  have N7 := hide (t2.new N7.out)
  have YO1 := hide (YO1.out.touch t2 M1.out.lt (fun g hg h => dd1_2 g h hg))
  have M1 := hide (t2.new M1.out)
  have M2 := hide (t2.new N2.out)
  clear t2
  have lt2 := R2.lt
  have cc2 := R2.cell 8
  go_wp2_with fail
  refine (markIntS_any x.results _ _ _ f3 lo _ (((k0) + x.queue.length) + CrewHand.cntS x.hands) _ (by omega) O3.out N3.out (by omega)).mono ?_
  rintro e w3_ ⟨y3, rfl, yl3, yo3, ym3, t3⟩
  have T3 := hide (T2.out.trans (t3.mono (by intro g hg; simp [hg])))
  have YO3 := hide yo3
  have YM3 := hide ym3
  have YL3 := hide yl3
  clear yo3 ym3 yl3
  have R3 : Row w3_ w.heap.size 30 [.int .i64 x.jobs, .int .i64 x.workers, .int .i64 x.window, .int .i64 x.next, .int .i64 x.reader, .slice A1 x.queue.length c1, .slice A2 x.hands.length c2, .int .i64 x.closer, .slice A3 x.results.length c3, .int .i64 x.keeper, .slice A4 x.ring.length c4, .int .i64 x.due, .slice A5 x.out.length c5, .int .i64 x.user, .slice A6 x.got.length c6, .int .i64 x.room, .slice A7 x.shut.length c7, .int .i64 x.ops] := (t3.block _ R2.lt nb3).trans R2
  have O4 := hide (O4.out.touch t3 N4.out.lt dd3_4)
  have N4 := hide (t3.new N4.out)
  have O5 := hide (O5.out.touch t3 N5.out.lt dd3_5)
  have N5 := hide (t3.new N5.out)
  have O6 := hide (O6.out.touch t3 N6.out.lt dd3_6)
  have N6 := hide (t3.new N6.out)
  have O7 := hide (O7.out.touch t3 N7.out.lt dd3_7)
  have N7 := hide (t3.new N7.out)
  have YO1 := hide (YO1.out.touch t3 M1.out.lt (fun g hg h => dd1_3 g h hg))
  have M1 := hide (t3.new M1.out)
  have YO2 := hide (YO2.out.touch t3 M2.out.lt (fun g hg h => dd2_3 g h hg))
  have M2 := hide (t3.new M2.out)
  have M3 := hide (t3.new N3.out)
  clear t3
  have lt3 := R3.lt
  have cc3 := R3.cell 10
  go_wp2_with fail
  refine (markIntS_any x.ring _ _ _ f4 lo _ ((((k0) + x.queue.length) + CrewHand.cntS x.hands) + x.results.length) _ (by omega) O4.out N4.out (by omega)).mono ?_
  rintro e w4_ ⟨y4, rfl, yl4, yo4, ym4, t4⟩
  have T4 := hide (T3.out.trans (t4.mono (by intro g hg; simp [hg])))
  have YO4 := hide yo4
  have YM4 := hide ym4
  have YL4 := hide yl4
  clear yo4 ym4 yl4
  have R4 : Row w4_ w.heap.size 30 [.int .i64 x.jobs, .int .i64 x.workers, .int .i64 x.window, .int .i64 x.next, .int .i64 x.reader, .slice A1 x.queue.length c1, .slice A2 x.hands.length c2, .int .i64 x.closer, .slice A3 x.results.length c3, .int .i64 x.keeper, .slice A4 x.ring.length c4, .int .i64 x.due, .slice A5 x.out.length c5, .int .i64 x.user, .slice A6 x.got.length c6, .int .i64 x.room, .slice A7 x.shut.length c7, .int .i64 x.ops] := (t4.block _ R3.lt nb4).trans R3
  have O5 := hide (O5.out.touch t4 N5.out.lt dd4_5)
  have N5 := hide (t4.new N5.out)
  have O6 := hide (O6.out.touch t4 N6.out.lt dd4_6)
  have N6 := hide (t4.new N6.out)
  have O7 := hide (O7.out.touch t4 N7.out.lt dd4_7)
  have N7 := hide (t4.new N7.out)
  have YO1 := hide (YO1.out.touch t4 M1.out.lt (fun g hg h => dd1_4 g h hg))
  have M1 := hide (t4.new M1.out)
  have YO2 := hide (YO2.out.touch t4 M2.out.lt (fun g hg h => dd2_4 g h hg))
  have M2 := hide (t4.new M2.out)
  have YO3 := hide (YO3.out.touch t4 M3.out.lt (fun g hg h => dd3_4 g h hg))
  have M3 := hide (t4.new M3.out)
  have M4 := hide (t4.new N4.out)
  clear t4
  have lt4 := R4.lt
  have cc4 := R4.cell 12
  go_wp2_with fail
  refine (markIntS_any x.out _ _ _ f5 lo _ (((((k0) + x.queue.length) + CrewHand.cntS x.hands) + x.results.length) + x.ring.length) _ (by omega) O5.out N5.out (by omega)).mono ?_
  rintro e w5_ ⟨y5, rfl, yl5, yo5, ym5, t5⟩
  have T5 := hide (T4.out.trans (t5.mono (by intro g hg; simp [hg])))
  have YO5 := hide yo5
  have YM5 := hide ym5
  have YL5 := hide yl5
  clear yo5 ym5 yl5
  have R5 : Row w5_ w.heap.size 30 [.int .i64 x.jobs, .int .i64 x.workers, .int .i64 x.window, .int .i64 x.next, .int .i64 x.reader, .slice A1 x.queue.length c1, .slice A2 x.hands.length c2, .int .i64 x.closer, .slice A3 x.results.length c3, .int .i64 x.keeper, .slice A4 x.ring.length c4, .int .i64 x.due, .slice A5 x.out.length c5, .int .i64 x.user, .slice A6 x.got.length c6, .int .i64 x.room, .slice A7 x.shut.length c7, .int .i64 x.ops] := (t5.block _ R4.lt nb5).trans R4
  have O6 := hide (O6.out.touch t5 N6.out.lt dd5_6)
  have N6 := hide (t5.new N6.out)
  have O7 := hide (O7.out.touch t5 N7.out.lt dd5_7)
  have N7 := hide (t5.new N7.out)
  have YO1 := hide (YO1.out.touch t5 M1.out.lt (fun g hg h => dd1_5 g h hg))
  have M1 := hide (t5.new M1.out)
  have YO2 := hide (YO2.out.touch t5 M2.out.lt (fun g hg h => dd2_5 g h hg))
  have M2 := hide (t5.new M2.out)
  have YO3 := hide (YO3.out.touch t5 M3.out.lt (fun g hg h => dd3_5 g h hg))
  have M3 := hide (t5.new M3.out)
  have YO4 := hide (YO4.out.touch t5 M4.out.lt (fun g hg h => dd4_5 g h hg))
  have M4 := hide (t5.new M4.out)
  have M5 := hide (t5.new N5.out)
  clear t5
  have lt5 := R5.lt
  have cc5 := R5.cell 14
  go_wp2_with fail
  refine (markIntS_any x.got _ _ _ f6 lo _ ((((((k0) + x.queue.length) + CrewHand.cntS x.hands) + x.results.length) + x.ring.length) + x.out.length) _ (by omega) O6.out N6.out (by omega)).mono ?_
  rintro e w6_ ⟨y6, rfl, yl6, yo6, ym6, t6⟩
  have T6 := hide (T5.out.trans (t6.mono (by intro g hg; simp [hg])))
  have YO6 := hide yo6
  have YM6 := hide ym6
  have YL6 := hide yl6
  clear yo6 ym6 yl6
  have R6 : Row w6_ w.heap.size 30 [.int .i64 x.jobs, .int .i64 x.workers, .int .i64 x.window, .int .i64 x.next, .int .i64 x.reader, .slice A1 x.queue.length c1, .slice A2 x.hands.length c2, .int .i64 x.closer, .slice A3 x.results.length c3, .int .i64 x.keeper, .slice A4 x.ring.length c4, .int .i64 x.due, .slice A5 x.out.length c5, .int .i64 x.user, .slice A6 x.got.length c6, .int .i64 x.room, .slice A7 x.shut.length c7, .int .i64 x.ops] := (t6.block _ R5.lt nb6).trans R5
  have O7 := hide (O7.out.touch t6 N7.out.lt dd6_7)
  have N7 := hide (t6.new N7.out)
  have YO1 := hide (YO1.out.touch t6 M1.out.lt (fun g hg h => dd1_6 g h hg))
  have M1 := hide (t6.new M1.out)
  have YO2 := hide (YO2.out.touch t6 M2.out.lt (fun g hg h => dd2_6 g h hg))
  have M2 := hide (t6.new M2.out)
  have YO3 := hide (YO3.out.touch t6 M3.out.lt (fun g hg h => dd3_6 g h hg))
  have M3 := hide (t6.new M3.out)
  have YO4 := hide (YO4.out.touch t6 M4.out.lt (fun g hg h => dd4_6 g h hg))
  have M4 := hide (t6.new M4.out)
  have YO5 := hide (YO5.out.touch t6 M5.out.lt (fun g hg h => dd5_6 g h hg))
  have M5 := hide (t6.new M5.out)
  have M6 := hide (t6.new N6.out)
  clear t6
  have lt6 := R6.lt
  have cc6 := R6.cell 16
  go_wp2_with fail
  refine (markIntS_any x.shut _ _ _ f7 lo _ (((((((k0) + x.queue.length) + CrewHand.cntS x.hands) + x.results.length) + x.ring.length) + x.out.length) + x.got.length) _ (by omega) O7.out N7.out (by omega)).mono ?_
  rintro e w7_ ⟨y7, rfl, yl7, yo7, ym7, t7⟩
  have T7 := hide (T6.out.trans (t7.mono (by intro g hg; simp [hg])))
  have YO7 := hide yo7
  have YM7 := hide ym7
  have YL7 := hide yl7
  clear yo7 ym7 yl7
  have R7 : Row w7_ w.heap.size 30 [.int .i64 x.jobs, .int .i64 x.workers, .int .i64 x.window, .int .i64 x.next, .int .i64 x.reader, .slice A1 x.queue.length c1, .slice A2 x.hands.length c2, .int .i64 x.closer, .slice A3 x.results.length c3, .int .i64 x.keeper, .slice A4 x.ring.length c4, .int .i64 x.due, .slice A5 x.out.length c5, .int .i64 x.user, .slice A6 x.got.length c6, .int .i64 x.room, .slice A7 x.shut.length c7, .int .i64 x.ops] := (t7.block _ R6.lt nb7).trans R6
  have YO1 := hide (YO1.out.touch t7 M1.out.lt (fun g hg h => dd1_7 g h hg))
  have M1 := hide (t7.new M1.out)
  have YO2 := hide (YO2.out.touch t7 M2.out.lt (fun g hg h => dd2_7 g h hg))
  have M2 := hide (t7.new M2.out)
  have YO3 := hide (YO3.out.touch t7 M3.out.lt (fun g hg h => dd3_7 g h hg))
  have M3 := hide (t7.new M3.out)
  have YO4 := hide (YO4.out.touch t7 M4.out.lt (fun g hg h => dd4_7 g h hg))
  have M4 := hide (t7.new M4.out)
  have YO5 := hide (YO5.out.touch t7 M5.out.lt (fun g hg h => dd5_7 g h hg))
  have M5 := hide (t7.new M5.out)
  have YO6 := hide (YO6.out.touch t7 M6.out.lt (fun g hg h => dd6_7 g h hg))
  have M6 := hide (t7.new M6.out)
  have M7 := hide (t7.new N7.out)
  clear t7
  have lt7 := R7.lt
  go_wp2
  go_ret
  refine ⟨(CrewWorld.mk x.jobs x.workers x.window x.next x.reader y1 y2 x.closer y3 x.keeper y4 x.due y5 x.user y6 x.room y7 x.ops), ret_int (by omega), OwC.mCrewWorld w0 w1 w2 w3 w4 YO1.out YO2.out w7 YO3.out w9 YO4.out w11 YO5.out w13 YO6.out w15 YO7.out w17, ?_, ?_⟩
  · refine ⟨_, _, _, _, _, _, YM1.out, YM2.out, YM3.out, YM4.out, YM5.out, YM6.out, ?_⟩
    have h := YM7.out
    rw [hc]
    (try simp only [Nat.add_assoc] at h)
    (try simp only [Nat.add_assoc])
    exact h
  · exact T7.out
end Go.Proofs.Ytpkjjfnfolbcoaa
