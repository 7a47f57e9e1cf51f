/-
  The laws' copy of a world of a crew.
-/
import Derived.Test.YtpkjjfnfolbcoaaHCrewWorld
import Derived.Test.YtpkjjfnfolbcoaaHCrewHand
import Derived.Test.YtpkjjfnfolbcoaaStart
import Derived.Test.YtpkjjfnfolbcoaaTwo
import Derived.Laws.Tables
import Derived.Deep.Cut
set_option linter.unusedVariables false
set_option linter.unusedSimpArgs false
namespace Go.Proofs.Ytpkjjfnfolbcoaa
open Go.ChangeShapes Go.WideShapes Go.ChangeAt Go.RowKit

def ToCrewWorld (x : CrewWorld) : Prop := ∀ (us : List Value) (fp : List Nat) (w : World), OwC w x.cells us fp → Lt fp w.heap.size → x.bulk ≤ 1048576 →
  Calls Try.prog 14 #[.agg us.toArray] w fun e w' => ∃ vs fq, e = .returned (.agg vs.toArray) ∧ OwC w' x.cells vs fq ∧ New w' fq w.heap.size ∧ Below w.heap.size w w'
/-- on the way: the argument's box, the result's, the copy's, what was copied -/
structure Tw (w W : World) (us cur : List Value) (fp fi : List Nat) (x : CrewWorld) (ds : List D) (ys : List Value) : Prop where
  src : Row W w.heap.size 25 us
  res : Row W (w.heap.size + 1) 30 zeroCells
  obj : Row W (w.heap.size + 1 + 1) 30 cur
  fr : Below w.heap.size w W
  dat : OwC W x.cells us fp
  lt : Lt fp w.heap.size
  done : OwC W ds ys fi
  new : New W fi (w.heap.size + 1 + 1 + 1)
section
variable {w W W' : World} {us cur : List Value} {fp fi : List Nat} {x : CrewWorld} {ds : List D} {ys : List Value}
theorem Tw.set (h : Tw w W us cur fp fi x ds ys) (i : Nat) (v : Value) {cur' : List Value} (hc : cur.set i v = cur') : Tw w (W.setCell ⟨w.heap.size + 1 + 1, i, none⟩ v) us cur' fp fi x ds ys := by
  have hg := grownBy_setCell W ⟨w.heap.size + 1 + 1, i, none⟩ v
  have hb : Below w.heap.size W (W.setCell ⟨w.heap.size + 1 + 1, i, none⟩ v) := Below.setCell ((Below.refl W.heap.size W).mono h.fr.size) (by show w.heap.size ≤ w.heap.size + 1 + 1; omega) v
  have hn : ∀ g, some (w.heap.size + 1 + 1) = some g → g ∉ fi := fun g e => by
    injection e with e
    subst e
    exact h.new.out (by omega)
  subst hc
  exact ⟨h.src.far (by show w.heap.size ≠ w.heap.size + 1 + 1; omega) v, h.res.far (by show w.heap.size + 1 ≠ w.heap.size + 1 + 1; omega) v, h.obj.set i v, h.fr.trans hb, h.dat.below hb h.lt, h.lt, h.done.grown' hg h.new.lt hn, h.new.grown hg hn⟩
theorem Tw.call (h : Tw w W us cur fp fi x ds ys) (hb : Below W.heap.size W W') {d : D} {y : Value} {q : List Nat} (hy : Ow W' d y q) (hn : New W' q W.heap.size) : Tw w W' us cur fp (fi ++ q) x (ds ++ [d]) (ys ++ [y]) :=
  ⟨h.src.below hb h.src.lt, h.res.below hb h.res.lt, h.obj.below hb h.obj.lt, h.fr.trans (hb.mono h.fr.size), h.dat.below hb (h.lt.mono h.fr.size), h.lt, OwC.append (h.done.below hb h.new.lt) (by simpa [OwC] using hy), New.app (h.new.below hb h.new.lt) hn h.new.lt h.obj.lt⟩
end
theorem OwC.nth {w : World} : ∀ (l : List D) {us : List Value} {fp : List Nat}, OwC w l us fp → ∀ (i : Nat) (d : D) (v : Value), l[i]? = some d → us[i]? = some v → ∃ q, Ow w d v q ∧ q ⊆ fp
  | [], [], _, _, i, d, v, hd, _ => by simp at hd
  | [], _ :: _, _, h, _, _, _, _, _ => h.elim
  | _ :: _, [], _, h, _, _, _, _, _ => h.elim
  | a :: l, u :: us, _, h, i, d, v, hd, hv => by
    obtain ⟨g1, g2, h1, h2, rfl⟩ := h
    cases i with
    | zero =>
      simp only [List.getElem?_cons_zero, Option.some.injEq] at hd hv
      subst hd hv
      exact ⟨g1, h1, fun z hz => List.mem_append_left _ hz⟩
    | succ i =>
      obtain ⟨q, hq, hs⟩ := OwC.nth l h2 i d v (by simpa using hd) (by simpa using hv)
      exact ⟨q, hq, fun z hz => List.mem_append_right _ (hs hz)⟩
theorem Ow.isSlice {w : World} {k n : Nat} {l : List D} {y : Value} {fp : List Nat} (h : Ow w (.s k n l) y fp) : ∃ A c, y = .slice A n c := by
  obtain ⟨_, A, c, rfl, _⟩ := h
  exact ⟨A, c, rfl⟩
theorem below_setRow7 {w W : World} {g : Nat} (h : Below w.heap.size w W) (hg : w.heap.size ≤ g) (cs : Array Value) : Below w.heap.size w (W.setRow g cs) :=
  h.trans (below_of_grown (setRow_grown (grown_refl W (some g)) cs) hg h.size)
set_option maxRecDepth 100000 in
set_option maxHeartbeats 8000000 in
theorem toCrewWorld_any (x : CrewWorld) : ToCrewWorld x := by
  intro us fp w ho hf hbk
  rw [CrewWorld.bulk_eq] at hbk
  obtain ⟨A1, c1, A2, c2, A3, c3, A4, c4, A5, c5, A6, c6, A7, c7, f1, f2, f3, f4, f5, f6, f7, hus, w0, w1, w2, w3, w4, o1, o2, w7, o3, w9, o4, w11, o5, w13, o6, w15, o7, w17, hfp⟩ := ho.oCrewWorld
  clear o1 o2 o3 o4 o5 o6 o7
  have HT := hide (show Tw w (((w.alloc (.cells us.toArray 25)).alloc (.cells zeroCells.toArray 30)).alloc (.cells zeroCells.toArray 30)) us [.int .i64 0, .int .i64 0, .int .i64 0, .int .i64 0, .int .i64 0, .slice none 0 0, .slice none 0 0, .int .i64 0, .slice none 0 0, .int .i64 0, .slice none 0 0, .int .i64 0, .slice none 0 0, .int .i64 0, .slice none 0 0, .int .i64 0, .slice none 0 0, .int .i64 0] fp [] x [] [] from by
    have hb : Below w.heap.size w (((w.alloc (.cells us.toArray 25)).alloc (.cells zeroCells.toArray 30)).alloc (.cells zeroCells.toArray 30)) := (((Below.refl _ _).alloc (Nat.le_refl _) _).alloc (by simp) _).alloc (by simp; omega) _
    refine ⟨((Row.new w 25 us).alloc _).alloc _, ?_, ?_, hb, ho.below hb hf, hf, rfl, New.nil _ _⟩
    · have h := (Row.new (w.alloc (.cells us.toArray 25)) 30 zeroCells).alloc (.cells zeroCells.toArray 30)
      simpa using h
    · have h := Row.new ((w.alloc (.cells us.toArray 25)).alloc (.cells zeroCells.toArray 30)) 30 zeroCells
      simpa [zeroCells] using h)
  clear ho hf
  subst hus
  go_enter Try.func14, Try.ntmps14
  go_upto_region 2 with fail
  generalize hw : ((w.alloc _).alloc _).alloc _ = u0
  have HT := hide (show Tw w u0 _ _ fp [] x [] [] from by rw [← hw]; exact HT.out)
  clear hw
  have s0 := HT.out.src.cell 0
  have s1 := HT.out.src.lt
  have t0 := HT.out.obj.cell 0
  have t1 := HT.out.obj.frozen 0
  have t2 := HT.out.obj.lt
  have HT := hide (HT.out.set 0 (.int .i64 x.jobs) (cur' := [.int .i64 x.jobs, .int .i64 0, .int .i64 0, .int .i64 0, .int .i64 0, .slice none 0 0, .slice none 0 0, .int .i64 0, .slice none 0 0, .int .i64 0, .slice none 0 0, .int .i64 0, .slice none 0 0, .int .i64 0, .slice none 0 0, .int .i64 0, .slice none 0 0, .int .i64 0]) rfl)
  go_upto_region 3 with fail
  generalize u0.setCell _ _ = u1 at *
  clear t0 t1 t2 s0 s1
  have s0 := HT.out.src.cell 1
  have s1 := HT.out.src.lt
  have t0 := HT.out.obj.cell 1
  have t1 := HT.out.obj.frozen 1
  have t2 := HT.out.obj.lt
  have HT := hide (HT.out.set 1 (.int .i64 x.workers) (cur' := [.int .i64 x.jobs, .int .i64 x.workers, .int .i64 0, .int .i64 0, .int .i64 0, .slice none 0 0, .slice none 0 0, .int .i64 0, .slice none 0 0, .int .i64 0, .slice none 0 0, .int .i64 0, .slice none 0 0, .int .i64 0, .slice none 0 0, .int .i64 0, .slice none 0 0, .int .i64 0]) rfl)
  go_upto_region 4 with fail
  generalize u1.setCell _ _ = u2 at *
  clear t0 t1 t2 s0 s1
  have s0 := HT.out.src.cell 2
  have s1 := HT.out.src.lt
  have t0 := HT.out.obj.cell 2
  have t1 := HT.out.obj.frozen 2
  have t2 := HT.out.obj.lt
  have HT := hide (HT.out.set 2 (.int .i64 x.window) (cur' := [.int .i64 x.jobs, .int .i64 x.workers, .int .i64 x.window, .int .i64 0, .int .i64 0, .slice none 0 0, .slice none 0 0, .int .i64 0, .slice none 0 0, .int .i64 0, .slice none 0 0, .int .i64 0, .slice none 0 0, .int .i64 0, .slice none 0 0, .int .i64 0, .slice none 0 0, .int .i64 0]) rfl)
  go_upto_region 5 with fail
  generalize u2.setCell _ _ = u3 at *
  clear t0 t1 t2 s0 s1
  have s0 := HT.out.src.cell 3
  have s1 := HT.out.src.lt
  have t0 := HT.out.obj.cell 3
  have t1 := HT.out.obj.frozen 3
  have t2 := HT.out.obj.lt
  have HT := hide (HT.out.set 3 (.int .i64 x.next) (cur' := [.int .i64 x.jobs, .int .i64 x.workers, .int .i64 x.window, .int .i64 x.next, .int .i64 0, .slice none 0 0, .slice none 0 0, .int .i64 0, .slice none 0 0, .int .i64 0, .slice none 0 0, .int .i64 0, .slice none 0 0, .int .i64 0, .slice none 0 0, .int .i64 0, .slice none 0 0, .int .i64 0]) rfl)
  go_upto_region 6 with fail
  generalize u3.setCell _ _ = u4 at *
  clear t0 t1 t2 s0 s1
  have s0 := HT.out.src.cell 4
  have s1 := HT.out.src.lt
  have t0 := HT.out.obj.cell 4
  have t1 := HT.out.obj.frozen 4
  have t2 := HT.out.obj.lt
  have HT := hide (HT.out.set 4 (.int .i64 x.reader) (cur' := [.int .i64 x.jobs, .int .i64 x.workers, .int .i64 x.window, .int .i64 x.next, .int .i64 x.reader, .slice none 0 0, .slice none 0 0, .int .i64 0, .slice none 0 0, .int .i64 0, .slice none 0 0, .int .i64 0, .slice none 0 0, .int .i64 0, .slice none 0 0, .int .i64 0, .slice none 0 0, .int .i64 0]) rfl)
  go_upto_region 7 with fail
  generalize u4.setCell _ _ = u5 at *
  clear t0 t1 t2 s0 s1
  have s0 := HT.out.src.cell 5
  have s1 := HT.out.src.lt
  have HOw := hide (show ∃ q, Ow u5 (.s 1 x.queue.length (x.queue.flatMap intC)) (.slice A1 x.queue.length c1) q ∧ Lt q u5.heap.size from by
    obtain ⟨q, hq, hs⟩ := OwC.nth _ HT.out.dat 5 (D.s 1 x.queue.length (x.queue.flatMap intC)) (.slice A1 x.queue.length c1) rfl rfl
    exact ⟨q, hq, (HT.out.lt.mono HT.out.fr.size).sub hs⟩)
  obtain ⟨q0, hq0, hq1⟩ := HOw.out
  go_wp2_with fail
  refine (toIntS_any _ _ _ _ _ _ hq0 hq1 (by omega)).mono ?_
  rintro e v5 ⟨y, q1, rfl, hy, hn, hb⟩
  obtain ⟨D1, e1, rfl⟩ := hy.isSlice
  have HT := hide (HT.out.call hb hy hn)
  clear hb hn hy hq0 hq1 HOw s0 s1
  have s1 := HT.out.src.lt
  have t0 := HT.out.obj.cell 5
  have t1 := HT.out.obj.frozen 5
  have t2 := HT.out.obj.lt
  have HT := hide (HT.out.set 5 (.slice D1 x.queue.length e1) (cur' := [.int .i64 x.jobs, .int .i64 x.workers, .int .i64 x.window, .int .i64 x.next, .int .i64 x.reader, .slice D1 x.queue.length e1, .slice none 0 0, .int .i64 0, .slice none 0 0, .int .i64 0, .slice none 0 0, .int .i64 0, .slice none 0 0, .int .i64 0, .slice none 0 0, .int .i64 0, .slice none 0 0, .int .i64 0]) rfl)
  go_upto_region 8 with fail
  generalize v5.setCell _ _ = u6 at *
  clear t0 t1 t2 s1
  have s0 := HT.out.src.cell 6
  have s1 := HT.out.src.lt
  have HOw := hide (show ∃ q, Ow u6 (.s 2 x.hands.length (x.hands.flatMap CrewHand.cells)) (.slice A2 x.hands.length c2) q ∧ Lt q u6.heap.size from by
    obtain ⟨q, hq, hs⟩ := OwC.nth _ HT.out.dat 6 (D.s 2 x.hands.length (x.hands.flatMap CrewHand.cells)) (.slice A2 x.hands.length c2) rfl rfl
    exact ⟨q, hq, (HT.out.lt.mono HT.out.fr.size).sub hs⟩)
  obtain ⟨q0, hq0, hq1⟩ := HOw.out
  go_wp2_with fail
  refine (toCrewHandS_any _ _ _ _ _ _ hq0 hq1 (by omega)).mono ?_
  rintro e v6 ⟨y, q2, rfl, hy, hn, hb⟩
  obtain ⟨D2, e2, rfl⟩ := hy.isSlice
  have HT := hide (HT.out.call hb hy hn)
  clear hb hn hy hq0 hq1 HOw s0 s1
  have s1 := HT.out.src.lt
  have t0 := HT.out.obj.cell 6
  have t1 := HT.out.obj.frozen 6
  have t2 := HT.out.obj.lt
  have HT := hide (HT.out.set 6 (.slice D2 x.hands.length e2) (cur' := [.int .i64 x.jobs, .int .i64 x.workers, .int .i64 x.window, .int .i64 x.next, .int .i64 x.reader, .slice D1 x.queue.length e1, .slice D2 x.hands.length e2, .int .i64 0, .slice none 0 0, .int .i64 0, .slice none 0 0, .int .i64 0, .slice none 0 0, .int .i64 0, .slice none 0 0, .int .i64 0, .slice none 0 0, .int .i64 0]) rfl)
  go_upto_region 9 with fail
  generalize v6.setCell _ _ = u7 at *
  clear t0 t1 t2 s1
  have s0 := HT.out.src.cell 7
  have s1 := HT.out.src.lt
  have t0 := HT.out.obj.cell 7
  have t1 := HT.out.obj.frozen 7
  have t2 := HT.out.obj.lt
  have HT := hide (HT.out.set 7 (.int .i64 x.closer) (cur' := [.int .i64 x.jobs, .int .i64 x.workers, .int .i64 x.window, .int .i64 x.next, .int .i64 x.reader, .slice D1 x.queue.length e1, .slice D2 x.hands.length e2, .int .i64 x.closer, .slice none 0 0, .int .i64 0, .slice none 0 0, .int .i64 0, .slice none 0 0, .int .i64 0, .slice none 0 0, .int .i64 0, .slice none 0 0, .int .i64 0]) rfl)
  go_upto_region 10 with fail
  generalize u7.setCell _ _ = u8 at *
  clear t0 t1 t2 s0 s1
  have s0 := HT.out.src.cell 8
  have s1 := HT.out.src.lt
  have HOw := hide (show ∃ q, Ow u8 (.s 1 x.results.length (x.results.flatMap intC)) (.slice A3 x.results.length c3) q ∧ Lt q u8.heap.size from by
    obtain ⟨q, hq, hs⟩ := OwC.nth _ HT.out.dat 8 (D.s 1 x.results.length (x.results.flatMap intC)) (.slice A3 x.results.length c3) rfl rfl
    exact ⟨q, hq, (HT.out.lt.mono HT.out.fr.size).sub hs⟩)
  obtain ⟨q0, hq0, hq1⟩ := HOw.out
  go_wp2_with fail
  refine (toIntS_any _ _ _ _ _ _ hq0 hq1 (by omega)).mono ?_
  rintro e v8 ⟨y, q3, rfl, hy, hn, hb⟩
  obtain ⟨D3, e3, rfl⟩ := hy.isSlice
  have HT := hide (HT.out.call hb hy hn)
  clear hb hn hy hq0 hq1 HOw s0 s1
  have s1 := HT.out.src.lt
  have t0 := HT.out.obj.cell 8
  have t1 := HT.out.obj.frozen 8
  have t2 := HT.out.obj.lt
  have HT := hide (HT.out.set 8 (.slice D3 x.results.length e3) (cur' := [.int .i64 x.jobs, .int .i64 x.workers, .int .i64 x.window, .int .i64 x.next, .int .i64 x.reader, .slice D1 x.queue.length e1, .slice D2 x.hands.length e2, .int .i64 x.closer, .slice D3 x.results.length e3, .int .i64 0, .slice none 0 0, .int .i64 0, .slice none 0 0, .int .i64 0, .slice none 0 0, .int .i64 0, .slice none 0 0, .int .i64 0]) rfl)
  go_upto_region 11 with fail
  generalize v8.setCell _ _ = u9 at *
  clear t0 t1 t2 s1
  have s0 := HT.out.src.cell 9
  have s1 := HT.out.src.lt
  have t0 := HT.out.obj.cell 9
  have t1 := HT.out.obj.frozen 9
  have t2 := HT.out.obj.lt
  have HT := hide (HT.out.set 9 (.int .i64 x.keeper) (cur' := [.int .i64 x.jobs, .int .i64 x.workers, .int .i64 x.window, .int .i64 x.next, .int .i64 x.reader, .slice D1 x.queue.length e1, .slice D2 x.hands.length e2, .int .i64 x.closer, .slice D3 x.results.length e3, .int .i64 x.keeper, .slice none 0 0, .int .i64 0, .slice none 0 0, .int .i64 0, .slice none 0 0, .int .i64 0, .slice none 0 0, .int .i64 0]) rfl)
  go_upto_region 12 with fail
  generalize u9.setCell _ _ = u10 at *
  clear t0 t1 t2 s0 s1
  have s0 := HT.out.src.cell 10
  have s1 := HT.out.src.lt
  have HOw := hide (show ∃ q, Ow u10 (.s 1 x.ring.length (x.ring.flatMap intC)) (.slice A4 x.ring.length c4) q ∧ Lt q u10.heap.size from by
    obtain ⟨q, hq, hs⟩ := OwC.nth _ HT.out.dat 10 (D.s 1 x.ring.length (x.ring.flatMap intC)) (.slice A4 x.ring.length c4) rfl rfl
    exact ⟨q, hq, (HT.out.lt.mono HT.out.fr.size).sub hs⟩)
  obtain ⟨q0, hq0, hq1⟩ := HOw.out
  go_wp2_with fail
  refine (toIntS_any _ _ _ _ _ _ hq0 hq1 (by omega)).mono ?_
  rintro e v10 ⟨y, q4, rfl, hy, hn, hb⟩
  obtain ⟨D4, e4, rfl⟩ := hy.isSlice
  have HT := hide (HT.out.call hb hy hn)
  clear hb hn hy hq0 hq1 HOw s0 s1
  have s1 := HT.out.src.lt
  have t0 := HT.out.obj.cell 10
  have t1 := HT.out.obj.frozen 10
  have t2 := HT.out.obj.lt
  have HT := hide (HT.out.set 10 (.slice D4 x.ring.length e4) (cur' := [.int .i64 x.jobs, .int .i64 x.workers, .int .i64 x.window, .int .i64 x.next, .int .i64 x.reader, .slice D1 x.queue.length e1, .slice D2 x.hands.length e2, .int .i64 x.closer, .slice D3 x.results.length e3, .int .i64 x.keeper, .slice D4 x.ring.length e4, .int .i64 0, .slice none 0 0, .int .i64 0, .slice none 0 0, .int .i64 0, .slice none 0 0, .int .i64 0]) rfl)
  go_upto_region 13 with fail
  generalize v10.setCell _ _ = u11 at *
  clear t0 t1 t2 s1
  have s0 := HT.out.src.cell 11
  have s1 := HT.out.src.lt
  have t0 := HT.out.obj.cell 11
  have t1 := HT.out.obj.frozen 11
  have t2 := HT.out.obj.lt
  have HT := hide (HT.out.set 11 (.int .i64 x.due) (cur' := [.int .i64 x.jobs, .int .i64 x.workers, .int .i64 x.window, .int .i64 x.next, .int .i64 x.reader, .slice D1 x.queue.length e1, .slice D2 x.hands.length e2, .int .i64 x.closer, .slice D3 x.results.length e3, .int .i64 x.keeper, .slice D4 x.ring.length e4, .int .i64 x.due, .slice none 0 0, .int .i64 0, .slice none 0 0, .int .i64 0, .slice none 0 0, .int .i64 0]) rfl)
  go_upto_region 14 with fail
  generalize u11.setCell _ _ = u12 at *
  clear t0 t1 t2 s0 s1
  have s0 := HT.out.src.cell 12
  have s1 := HT.out.src.lt
  have HOw := hide (show ∃ q, Ow u12 (.s 1 x.out.length (x.out.flatMap intC)) (.slice A5 x.out.length c5) q ∧ Lt q u12.heap.size from by
    obtain ⟨q, hq, hs⟩ := OwC.nth _ HT.out.dat 12 (D.s 1 x.out.length (x.out.flatMap intC)) (.slice A5 x.out.length c5) rfl rfl
    exact ⟨q, hq, (HT.out.lt.mono HT.out.fr.size).sub hs⟩)
  obtain ⟨q0, hq0, hq1⟩ := HOw.out
  go_wp2_with fail
  refine (toIntS_any _ _ _ _ _ _ hq0 hq1 (by omega)).mono ?_
  rintro e v12 ⟨y, q5, rfl, hy, hn, hb⟩
  obtain ⟨D5, e5, rfl⟩ := hy.isSlice
  have HT := hide (HT.out.call hb hy hn)
  clear hb hn hy hq0 hq1 HOw s0 s1
  have s1 := HT.out.src.lt
  have t0 := HT.out.obj.cell 12
  have t1 := HT.out.obj.frozen 12
  have t2 := HT.out.obj.lt
  have HT := hide (HT.out.set 12 (.slice D5 x.out.length e5) (cur' := [.int .i64 x.jobs, .int .i64 x.workers, .int .i64 x.window, .int .i64 x.next, .int .i64 x.reader, .slice D1 x.queue.length e1, .slice D2 x.hands.length e2, .int .i64 x.closer, .slice D3 x.results.length e3, .int .i64 x.keeper, .slice D4 x.ring.length e4, .int .i64 x.due, .slice D5 x.out.length e5, .int .i64 0, .slice none 0 0, .int .i64 0, .slice none 0 0, .int .i64 0]) rfl)
  go_upto_region 15 with fail
  generalize v12.setCell _ _ = u13 at *
  clear t0 t1 t2 s1
  have s0 := HT.out.src.cell 13
  have s1 := HT.out.src.lt
  have t0 := HT.out.obj.cell 13
  have t1 := HT.out.obj.frozen 13
  have t2 := HT.out.obj.lt
  have HT := hide (HT.out.set 13 (.int .i64 x.user) (cur' := [.int .i64 x.jobs, .int .i64 x.workers, .int .i64 x.window, .int .i64 x.next, .int .i64 x.reader, .slice D1 x.queue.length e1, .slice D2 x.hands.length e2, .int .i64 x.closer, .slice D3 x.results.length e3, .int .i64 x.keeper, .slice D4 x.ring.length e4, .int .i64 x.due, .slice D5 x.out.length e5, .int .i64 x.user, .slice none 0 0, .int .i64 0, .slice none 0 0, .int .i64 0]) rfl)
  go_upto_region 16 with fail
  generalize u13.setCell _ _ = u14 at *
  clear t0 t1 t2 s0 s1
  have s0 := HT.out.src.cell 14
  have s1 := HT.out.src.lt
  have HOw := hide (show ∃ q, Ow u14 (.s 1 x.got.length (x.got.flatMap intC)) (.slice A6 x.got.length c6) q ∧ Lt q u14.heap.size from by
    obtain ⟨q, hq, hs⟩ := OwC.nth _ HT.out.dat 14 (D.s 1 x.got.length (x.got.flatMap intC)) (.slice A6 x.got.length c6) rfl rfl
    exact ⟨q, hq, (HT.out.lt.mono HT.out.fr.size).sub hs⟩)
  obtain ⟨q0, hq0, hq1⟩ := HOw.out
  go_wp2_with fail
  refine (toIntS_any _ _ _ _ _ _ hq0 hq1 (by omega)).mono ?_
  rintro e v14 ⟨y, q6, rfl, hy, hn, hb⟩
  obtain ⟨D6, e6, rfl⟩ := hy.isSlice
  have HT := hide (HT.out.call hb hy hn)
  clear hb hn hy hq0 hq1 HOw s0 s1
  have s1 := HT.out.src.lt
  have t0 := HT.out.obj.cell 14
  have t1 := HT.out.obj.frozen 14
  have t2 := HT.out.obj.lt
  have HT := hide (HT.out.set 14 (.slice D6 x.got.length e6) (cur' := [.int .i64 x.jobs, .int .i64 x.workers, .int .i64 x.window, .int .i64 x.next, .int .i64 x.reader, .slice D1 x.queue.length e1, .slice D2 x.hands.length e2, .int .i64 x.closer, .slice D3 x.results.length e3, .int .i64 x.keeper, .slice D4 x.ring.length e4, .int .i64 x.due, .slice D5 x.out.length e5, .int .i64 x.user, .slice D6 x.got.length e6, .int .i64 0, .slice none 0 0, .int .i64 0]) rfl)
  go_upto_region 17 with fail
  generalize v14.setCell _ _ = u15 at *
  clear t0 t1 t2 s1
  have s0 := HT.out.src.cell 15
  have s1 := HT.out.src.lt
  have t0 := HT.out.obj.cell 15
  have t1 := HT.out.obj.frozen 15
  have t2 := HT.out.obj.lt
  have HT := hide (HT.out.set 15 (.int .i64 x.room) (cur' := [.int .i64 x.jobs, .int .i64 x.workers, .int .i64 x.window, .int .i64 x.next, .int .i64 x.reader, .slice D1 x.queue.length e1, .slice D2 x.hands.length e2, .int .i64 x.closer, .slice D3 x.results.length e3, .int .i64 x.keeper, .slice D4 x.ring.length e4, .int .i64 x.due, .slice D5 x.out.length e5, .int .i64 x.user, .slice D6 x.got.length e6, .int .i64 x.room, .slice none 0 0, .int .i64 0]) rfl)
  go_upto_region 18 with fail
  generalize u15.setCell _ _ = u16 at *
  clear t0 t1 t2 s0 s1
  have s0 := HT.out.src.cell 16
  have s1 := HT.out.src.lt
  have HOw := hide (show ∃ q, Ow u16 (.s 1 x.shut.length (x.shut.flatMap intC)) (.slice A7 x.shut.length c7) q ∧ Lt q u16.heap.size from by
    obtain ⟨q, hq, hs⟩ := OwC.nth _ HT.out.dat 16 (D.s 1 x.shut.length (x.shut.flatMap intC)) (.slice A7 x.shut.length c7) rfl rfl
    exact ⟨q, hq, (HT.out.lt.mono HT.out.fr.size).sub hs⟩)
  obtain ⟨q0, hq0, hq1⟩ := HOw.out
  go_wp2_with fail
  refine (toIntS_any _ _ _ _ _ _ hq0 hq1 (by omega)).mono ?_
  rintro e v16 ⟨y, q7, rfl, hy, hn, hb⟩
  obtain ⟨D7, e7, rfl⟩ := hy.isSlice
  have HT := hide (HT.out.call hb hy hn)
  clear hb hn hy hq0 hq1 HOw s0 s1
  have s1 := HT.out.src.lt
  have t0 := HT.out.obj.cell 16
  have t1 := HT.out.obj.frozen 16
  have t2 := HT.out.obj.lt
  have HT := hide (HT.out.set 16 (.slice D7 x.shut.length e7) (cur' := [.int .i64 x.jobs, .int .i64 x.workers, .int .i64 x.window, .int .i64 x.next, .int .i64 x.reader, .slice D1 x.queue.length e1, .slice D2 x.hands.length e2, .int .i64 x.closer, .slice D3 x.results.length e3, .int .i64 x.keeper, .slice D4 x.ring.length e4, .int .i64 x.due, .slice D5 x.out.length e5, .int .i64 x.user, .slice D6 x.got.length e6, .int .i64 x.room, .slice D7 x.shut.length e7, .int .i64 0]) rfl)
  go_upto_region 19 with fail
  generalize v16.setCell _ _ = u17 at *
  clear t0 t1 t2 s1
  have s0 := HT.out.src.cell 17
  have s1 := HT.out.src.lt
  have t0 := HT.out.obj.cell 17
  have t1 := HT.out.obj.frozen 17
  have t2 := HT.out.obj.lt
  have HT := hide (HT.out.set 17 (.int .i64 x.ops) (cur' := [.int .i64 x.jobs, .int .i64 x.workers, .int .i64 x.window, .int .i64 x.next, .int .i64 x.reader, .slice D1 x.queue.length e1, .slice D2 x.hands.length e2, .int .i64 x.closer, .slice D3 x.results.length e3, .int .i64 x.keeper, .slice D4 x.ring.length e4, .int .i64 x.due, .slice D5 x.out.length e5, .int .i64 x.user, .slice D6 x.got.length e6, .int .i64 x.room, .slice D7 x.shut.length e7, .int .i64 x.ops]) rfl)
  go_upto_region 20 with fail
  generalize u17.setCell _ _ = u18 at *
  clear t0 t1 t2 s0 s1
  have t2 := HT.out.obj.lt
  have t3 := HT.out.res.lt
  have hone : ([.int .i64 x.jobs, .int .i64 x.workers, .int .i64 x.window, .int .i64 x.next, .int .i64 x.reader, .slice D1 x.queue.length e1, .slice D2 x.hands.length e2, .int .i64 x.closer, .slice D3 x.results.length e3, .int .i64 x.keeper, .slice D4 x.ring.length e4, .int .i64 x.due, .slice D5 x.out.length e5, .int .i64 x.user, .slice D6 x.got.length e6, .int .i64 x.room, .slice D7 x.shut.length e7, .int .i64 x.ops] : List Value).toArray.all (·.oneCell') = true := by simp [Value.oneCell']
  go_wp2_with (first | (refine wpList_load_row rfl 30 _ rfl (w.heap.size + 1 + 1) rfl 30 ([.int .i64 x.jobs, .int .i64 x.workers, .int .i64 x.window, .int .i64 x.next, .int .i64 x.reader, .slice D1 x.queue.length e1, .slice D2 x.hands.length e2, .int .i64 x.closer, .slice D3 x.results.length e3, .int .i64 x.keeper, .slice D4 x.ring.length e4, .int .i64 x.due, .slice D5 x.out.length e5, .int .i64 x.user, .slice D6 x.got.length e6, .int .i64 x.room, .slice D7 x.shut.length e7, .int .i64 x.ops] : List Value).toArray (0, 0) _ HT.out.obj Try.underlying30 rfl (by kernel_rfl) ?_) | (refine wpList_store_row rfl 30 _ _ rfl (w.heap.size + 1) ([.int .i64 x.jobs, .int .i64 x.workers, .int .i64 x.window, .int .i64 x.next, .int .i64 x.reader, .slice D1 x.queue.length e1, .slice D2 x.hands.length e2, .int .i64 x.closer, .slice D3 x.results.length e3, .int .i64 x.keeper, .slice D4 x.ring.length e4, .int .i64 x.due, .slice D5 x.out.length e5, .int .i64 x.user, .slice D6 x.got.length e6, .int .i64 x.room, .slice D7 x.shut.length e7, .int .i64 x.ops] : List Value).toArray rfl rfl 30 zeroCells.toArray HT.out.res (by kernel_rfl) rfl hone ?_) | fail)
  refine bodyPost_ret (ret_row rfl _ _ (w.heap.size + 1) 30 ([.int .i64 x.jobs, .int .i64 x.workers, .int .i64 x.window, .int .i64 x.next, .int .i64 x.reader, .slice D1 x.queue.length e1, .slice D2 x.hands.length e2, .int .i64 x.closer, .slice D3 x.results.length e3, .int .i64 x.keeper, .slice D4 x.ring.length e4, .int .i64 x.due, .slice D5 x.out.length e5, .int .i64 x.user, .slice D6 x.got.length e6, .int .i64 x.room, .slice D7 x.shut.length e7, .int .i64 x.ops] : List Value) (Row.setRow' HT.out.res [.int .i64 x.jobs, .int .i64 x.workers, .int .i64 x.window, .int .i64 x.next, .int .i64 x.reader, .slice D1 x.queue.length e1, .slice D2 x.hands.length e2, .int .i64 x.closer, .slice D3 x.results.length e3, .int .i64 x.keeper, .slice D4 x.ring.length e4, .int .i64 x.due, .slice D5 x.out.length e5, .int .i64 x.user, .slice D6 x.got.length e6, .int .i64 x.room, .slice D7 x.shut.length e7, .int .i64 x.ops]) _ rfl Try.underlying30 rfl (by kernel_rfl)) rfl ?_
  have hg := setRow_grown (grown_refl u18 (some (w.heap.size + 1))) ([.int .i64 x.jobs, .int .i64 x.workers, .int .i64 x.window, .int .i64 x.next, .int .i64 x.reader, .slice D1 x.queue.length e1, .slice D2 x.hands.length e2, .int .i64 x.closer, .slice D3 x.results.length e3, .int .i64 x.keeper, .slice D4 x.ring.length e4, .int .i64 x.due, .slice D5 x.out.length e5, .int .i64 x.user, .slice D6 x.got.length e6, .int .i64 x.room, .slice D7 x.shut.length e7, .int .i64 x.ops] : List Value).toArray
  have hnr : ∀ g, some (w.heap.size + 1) = some g → g ∉ [] ++ q1 ++ q2 ++ q3 ++ q4 ++ q5 ++ q6 ++ q7 := fun g e => by
    injection e with e
    subst e
    exact HT.out.new.out (by omega)
  have hd := HT.out.done.grown' hg HT.out.new.lt hnr
  have hn := HT.out.new.grown hg hnr
  obtain ⟨g1, r1, h1, ⟨g2, r2, h2, ⟨g3, r3, h3, ⟨g4, r4, h4, ⟨g5, r5, h5, ⟨g6, r6, h6, ⟨g7, r7, h7, hr7, x7⟩, x6⟩, x5⟩, x4⟩, x3⟩, x2⟩, x1⟩ := hd
  simp only [OwC] at hr7
  subst hr7 x7 x6 x5 x4 x3 x2
  have hn2 := hn
  rw [x1] at hn2
  simp only [List.append_nil] at hn2
  exact ⟨_, _, rfl, OwC.mCrewWorld w0 w1 w2 w3 w4 h1 h2 w7 h3 w9 h4 w11 h5 w13 h6 w15 h7 w17, hn2.mono (by omega), below_setRow7 HT.out.fr (by omega) _⟩
end Go.Proofs.Ytpkjjfnfolbcoaa
