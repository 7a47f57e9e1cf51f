/-
  A way of the reader, done: the reference.
-/
import Derived.Deep.RegionLaw
import Derived.Deep.RegionWith
import Derived.Test.YtpkjjfnfolbcoaaQPlayS1
import Derived.Test.YtpkjjfnfolbcoaaQPlayZ
import Derived.Test.YtpkjjfnfolbcoaaQPlayM9
set_option linter.unusedVariables false
set_option linter.unusedSimpArgs false
namespace Go.Proofs.Ytpkjjfnfolbcoaa
open Go.ChangeShapes Go.WideShapes Go.ChangeAt Go.RowKit

theorem Wz.start2 {w : World} {B : Nat} {x : CrewWorld} {v : V7} (hs : Ws w B x v) (hB : B ≤ w.heap.size) : Wz w ((w.alloc (.cells (v.cells x).toArray 30)).alloc (.cells zeroCells.toArray 30)) w.heap.size B [(w.heap.size + 1, 30, zeroCells)] id x v := by
  have hz := Row.new (w.alloc (.cells (v.cells x).toArray 30)) 30 zeroCells
  rw [World.size_alloc] at hz
  have hw := (hs.alloc (.cells (v.cells x).toArray 30)).alloc (.cells zeroCells.toArray 30)
  refine ⟨(Row.new w _ _).alloc _, hw, hs.freeNew (Nat.le_refl _), fun r hr => ?_, ((Below.refl _ _).alloc hB _).alloc (by rw [World.size_alloc]; omega) _, hB, by rw [World.size_alloc, World.size_alloc]; omega⟩
  simp only [List.mem_singleton] at hr
  subst hr
  exact ⟨hz, hs.freeNew (by omega), by show w.heap.size + 1 ≠ w.heap.size; omega⟩
theorem wk (e : Int) (h1 : -1000000 ≤ e) (h2 : e ≤ 1000000) : IntKind.i64.wrap e = e ∧ wrap64 e = e := ⟨wrapI _ (by omega) (by omega), by unfold wrap64; omega⟩
def DoOut (y : CrewWorld) (B : Nat) (w : World) (e : Ending) (w' : World) : Prop := ∃ us fp, e = .returned (.agg us.toArray) ∧ OwC w' y.cells us fp ∧ Lt fp w'.heap.size ∧ (∀ g ∈ fp, B ≤ g) ∧ Below B w w'
theorem Wz.done {w W : World} {B z : Nat} {y : CrewWorld} {v : V7} {b : Nat} (h : Wz w W b B [(z, 30, zeroCells)] id y v) {y' : CrewWorld} (hy : y'.ok) (hz : B ≤ z) (he : y' = y) : DoOut y' B w (.returned (.agg (v.cells y).toArray)) (W.setRow z (v.cells y).toArray) := by
  subst he
  have hg := setRow_grown (grown_refl W (some z)) (v.cells y').toArray
  obtain ⟨fp, h1, h2, h3⟩ := (h.ws.kept hg h.free0).owcB (ok_wf hy)
  exact ⟨_, fp, rfl, h1, h2, h3, h.fr.trans (below_of_grown hg hz h.sz)⟩
theorem ok_nums {x : CrewWorld} (h : x.ok) : (0 ≤ x.jobs ∧ x.jobs ≤ 60) ∧ (1 ≤ x.workers ∧ x.workers ≤ 8) ∧ (1 ≤ x.window ∧ x.window ≤ 16) ∧ (0 ≤ x.next ∧ x.next ≤ 60) ∧ (0 ≤ x.due ∧ x.due ≤ 60) ∧ (0 ≤ x.room ∧ x.room ≤ 16) ∧ (0 ≤ x.ops ∧ x.ops ≤ 10000) := by
  obtain ⟨k0, k1, k2⟩ := h.form.start
  have h2 := h.form.next
  have h3 := h.form.due
  have h4 := h.form.room
  have h5 := h.form.ops
  omega
theorem ok_some {x : CrewWorld} (h : x.ok) : 0 < x.hands.length ∧ 0 < x.ring.length ∧ 3 < x.shut.length ∧ (x.hands.length : Int) = x.workers ∧ (x.ring.length : Int) = x.window := by
  obtain ⟨k0, k1, k2⟩ := h.form.start
  have h2 := h.form.hands
  have h4 := h.form.ring
  have h7 := h.form.shut
  omega
theorem Sq.froz {α : Type} {W : World} {B e k g n c : Nat} {f : α → List D} {l : List α} (h : Sq W B e k f (.slice (some ⟨g, 0, none⟩) n c) l) (h0 : 0 < l.length) (i : Nat) : W.frozen? ⟨g, i, none⟩ = false := by
  obtain ⟨g', c', e1, _, _, hz⟩ := h.at0 h0
  injection e1 with e1
  injection e1 with e1
  injection e1 with e1
  subst e1
  exact hz i
theorem int_srcP {y : Int} (hy : (Lit.int .i64 y).wf = true) (W : World) : OwC W ([y].flatMap intC) [.int .i64 y] [] := ⟨[], [], ⟨rfl, hy, rfl⟩, rfl, rfl⟩
set_option maxRecDepth 100000 in
set_option maxHeartbeats 4000000 in
theorem l52DoReader_any (x : CrewWorld) (v : V7) (B : Nat) (w : World) (hs : Ws w B x v) (hB : B ≤ w.heap.size) (hok : x.ok) (k : Nat) (hk : x.rd[k]? = some true) : Calls Try.prog 126 #[.agg (v.cells x).toArray, .int .i64 (k : Int)] w (DoOut (x.doReader (k : Int)) B w) := by
  have HYO := hide (ok_rd hok hk).1
  have HOK := hide hok
  obtain ⟨k1, k2, k3, k4, k5, k6, k7⟩ := ok_lens hok
  obtain ⟨k0n, k1n, k2n, k3n, k4n, k5n, k6n⟩ := ok_nums hok
  obtain ⟨s2, s4, s7, sh_, sr_⟩ := ok_some hok
  have SH := hide sh_
  have SR := hide sr_
  clear sh_ sr_
  obtain ⟨vq, vh, vr, vg, vo, vt, vs⟩ := v
  obtain ⟨A1, c1, e1⟩ := hs.q.form
  change vq = _ at e1
  subst e1
  obtain ⟨g2, c2, e2, b2, l2, -⟩ := hs.h.at0 (by show 0 < x.hands.length; omega)
  change vh = _ at e2
  subst e2
  obtain ⟨A3, c3, e3⟩ := hs.r.form
  change vr = _ at e3
  subst e3
  obtain ⟨g4, c4, e4, b4, l4, -⟩ := hs.g.at0 (by show 0 < x.ring.length; omega)
  change vg = _ at e4
  subst e4
  obtain ⟨A5, c5, e5⟩ := hs.o.form
  change vo = _ at e5
  subst e5
  obtain ⟨A6, c6, e6⟩ := hs.t.form
  change vt = _ at e6
  subst e6
  obtain ⟨g7, c7, e7, b7, l7, -⟩ := hs.s.at0 (by show 0 < x.shut.length; omega)
  change vs = _ at e7
  subst e7
  have hrd := hok.form.reader
  obtain ⟨ib, hib, jb0, jb1, jb2⟩ := info_parts info_int
  have HIb := hide hib
  clear hib
  go_enter Try.func126, Try.ntmps126
  go_upto_region 4 with fail
  have HS := hide hs
  generalize hw1 : (w.alloc _).alloc _ = w1
  have HW := hide (show Wz w w1 w.heap.size B [(w.heap.size + 1, 30, zeroCells)] id x (⟨.slice A1 x.queue.length c1, .slice (some ⟨g2, 0, none⟩) x.hands.length c2, .slice A3 x.results.length c3, .slice (some ⟨g4, 0, none⟩) x.ring.length c4, .slice A5 x.out.length c5, .slice A6 x.got.length c6, .slice (some ⟨g7, 0, none⟩) x.shut.length c7⟩ : V7) from by rw [← hw1]; exact Wz.start2 hs hB)
  clear hw1 hs
  have hsz := HW.out.row0.lt
  simp only at hsz
  have x3 : w1.cell? ⟨w.heap.size, 3, none⟩ = some (.int .i64 x.next) := HW.out.box.cell 3
  have x4 : w1.cell? ⟨w.heap.size, 4, none⟩ = some (.int .i64 x.reader) := HW.out.box.cell 4
  have x5 : w1.cell? ⟨w.heap.size, 5, none⟩ = some (.slice A1 x.queue.length c1) := HW.out.box.cell 5
  have x15 : w1.cell? ⟨w.heap.size, 15, none⟩ = some (.int .i64 x.room) := HW.out.box.cell 15
  have x16 : w1.cell? ⟨w.heap.size, 16, none⟩ = some (.slice (some ⟨g7, 0, none⟩) x.shut.length c7) := HW.out.box.cell 16
  have x17 : w1.cell? ⟨w.heap.size, 17, none⟩ = some (.int .i64 x.ops) := HW.out.box.cell 17
  have xf3 : w1.frozen? ⟨w.heap.size, 3, none⟩ = false := HW.out.box.frozen 3
  have xf4 : w1.frozen? ⟨w.heap.size, 4, none⟩ = false := HW.out.box.frozen 4
  have xf5 : w1.frozen? ⟨w.heap.size, 5, none⟩ = false := HW.out.box.frozen 5
  have xf15 : w1.frozen? ⟨w.heap.size, 15, none⟩ = false := HW.out.box.frozen 15
  have xf17 : w1.frozen? ⟨w.heap.size, 17, none⟩ = false := HW.out.box.frozen 17
  have xl : w.heap.size < w1.heap.size := HW.out.lt
  have hg7b : g7 ≠ w.heap.size := fun e => HW.out.free (.slice (some ⟨g7, 0, none⟩) x.shut.length c7) (by simp [V7.list]) (congrArg some e)
  have hg7l : g7 < w1.heap.size := (HW.out.ws.s.lt g7 rfl).2
  have z7_0 : w1.cell? ⟨g7, 0, none⟩ = some (.int .i64 (x.shut[0]'(by omega))) := (HW.out.ws.s.cell 0 (by omega)).1
  have zf7_0 : w1.frozen? ⟨g7, 0, none⟩ = false := HW.out.ws.s.froz (by omega) 0
  obtain ⟨wv0, wu0⟩ := wk (x.ops + 1) (by omega) (by omega)
  obtain ⟨wv1, wu1⟩ := wk (x.next + 1) (by omega) (by omega)
  obtain ⟨wv2, wu2⟩ := wk (x.next - 1) (by omega) (by omega)
  obtain ⟨wv3, wu3⟩ := wk (x.room - 1) (by omega) (by omega)
  unfold CrewWorld.rd at hk
  by_cases h2 : x.reader = 2
  · have r2 : (x.reader == 2) = true := beqt h2
    have HE := hide (show x.doReader (k : Int) = x.r3 from by unfold CrewWorld.doReader; rw [if_pos h2]; rfl)
    clear hk h2
    go_upto_region 15 with fail
    have HF := hide (show Wz w _ w.heap.size B _ id x.r3 _ from ((HW.out.set_reader 3).int_s rfl 0 (by show 0 < x.shut.length; omega) 1 (by decide)).set_ops (x.ops + 1))
    generalize hWW : World.setCell _ _ _ = W at HF ⊢
    clear hWW
    obtain ⟨vv, hvv⟩ : ∃ vv, Wz w W w.heap.size B [(w.heap.size + 1, 30, zeroCells)] id (x.r3) vv := ⟨_, HF.out⟩
    replace HF := hide hvv
    clear hvv
    have hzl := HF.out.row0.lt
    have hbl := HF.out.lt
    simp only at hzl
    go_wp2_with (first | (refine wpList_load_row rfl 30 _ rfl (w.heap.size) rfl 30 (vv.cells (x.r3)).toArray (0, 0) _ HF.out.box Try.underlying30 rfl (by kernel_rfl) ?_) | (refine wpList_store_row rfl 30 _ _ rfl (w.heap.size + 1) (vv.cells (x.r3)).toArray rfl rfl 30 zeroCells.toArray HF.out.row0 (by kernel_rfl) rfl HF.out.ws.one ?_) | fail)
    refine bodyPost_ret (ret_row rfl _ _ (w.heap.size + 1) 30 (vv.cells (x.r3)) (HF.out.row0.setRow' (vv.cells (x.r3))) _ rfl Try.underlying30 rfl (by kernel_rfl)) rfl ?_
    exact HF.out.done HYO.out (by omega) HE.out
  have r2 : (x.reader == 2) = false := beqf h2
  by_cases hp : 0 < (k : Int)
  · have p0 : decide (0 < (k : Int)) = true := dec_true hp
    have p0n : decide (0 < k) = true := dec_true (by omega)
    have HE := hide (show x.doReader (k : Int) = x.r2 from by unfold CrewWorld.doReader; rw [if_neg h2, if_pos hp]; rfl)
    clear hk h2
    go_upto_region 15 with fail
    have HF := hide (show Wz w _ w.heap.size B _ id x.r2 _ from HW.out.set_reader 2)
    generalize hWW : World.setCell _ _ _ = W at HF ⊢
    clear hWW
    obtain ⟨vv, hvv⟩ : ∃ vv, Wz w W w.heap.size B [(w.heap.size + 1, 30, zeroCells)] id (x.r2) vv := ⟨_, HF.out⟩
    replace HF := hide hvv
    clear hvv
    have hzl := HF.out.row0.lt
    have hbl := HF.out.lt
    simp only at hzl
    go_wp2_with (first | (refine wpList_load_row rfl 30 _ rfl (w.heap.size) rfl 30 (vv.cells (x.r2)).toArray (0, 0) _ HF.out.box Try.underlying30 rfl (by kernel_rfl) ?_) | (refine wpList_store_row rfl 30 _ _ rfl (w.heap.size + 1) (vv.cells (x.r2)).toArray rfl rfl 30 zeroCells.toArray HF.out.row0 (by kernel_rfl) rfl HF.out.ws.one ?_) | fail)
    refine bodyPost_ret (ret_row rfl _ _ (w.heap.size + 1) 30 (vv.cells (x.r2)) (HF.out.row0.setRow' (vv.cells (x.r2))) _ rfl Try.underlying30 rfl (by kernel_rfl)) rfl ?_
    exact HF.out.done HYO.out (by omega) HE.out
  obtain rfl : k = 0 := by omega
  have p0 : decide (0 < ((0 : Nat) : Int)) = false := dec_false hp
  by_cases h0 : x.reader = 0
  · have r0 : (x.reader == 0) = true := beqt h0
    have HE := hide (show x.doReader ((0 : Nat) : Int) = { x with room := x.room - 1, next := x.next + 1, reader := 1, ops := x.ops + 1 } from by unfold CrewWorld.doReader; rw [if_neg h2, if_neg hp, if_pos h0])
    clear hk h2
    go_upto_region 15 with fail
    have HF := hide (show Wz w _ w.heap.size B _ id { x with room := x.room - 1, next := x.next + 1, reader := 1, ops := x.ops + 1 } _ from (((HW.out.set_room (x.room - 1)).set_next (x.next + 1)).set_reader 1).set_ops (x.ops + 1))
    generalize hWW : World.setCell _ _ _ = W at HF ⊢
    clear hWW
    obtain ⟨vv, hvv⟩ : ∃ vv, Wz w W w.heap.size B [(w.heap.size + 1, 30, zeroCells)] id ({ x with room := x.room - 1, next := x.next + 1, reader := 1, ops := x.ops + 1 }) vv := ⟨_, HF.out⟩
    replace HF := hide hvv
    clear hvv
    have hzl := HF.out.row0.lt
    have hbl := HF.out.lt
    simp only at hzl
    go_wp2_with (first | (refine wpList_load_row rfl 30 _ rfl (w.heap.size) rfl 30 (vv.cells ({ x with room := x.room - 1, next := x.next + 1, reader := 1, ops := x.ops + 1 })).toArray (0, 0) _ HF.out.box Try.underlying30 rfl (by kernel_rfl) ?_) | (refine wpList_store_row rfl 30 _ _ rfl (w.heap.size + 1) (vv.cells ({ x with room := x.room - 1, next := x.next + 1, reader := 1, ops := x.ops + 1 })).toArray rfl rfl 30 zeroCells.toArray HF.out.row0 (by kernel_rfl) rfl HF.out.ws.one ?_) | fail)
    refine bodyPost_ret (ret_row rfl _ _ (w.heap.size + 1) 30 (vv.cells ({ x with room := x.room - 1, next := x.next + 1, reader := 1, ops := x.ops + 1 })) (HF.out.row0.setRow' (vv.cells ({ x with room := x.room - 1, next := x.next + 1, reader := 1, ops := x.ops + 1 }))) _ rfl Try.underlying30 rfl (by kernel_rfl)) rfl ?_
    exact HF.out.done HYO.out (by omega) HE.out
  have r0 : (x.reader == 0) = false := beqf h0
  have HE := hide (show x.doReader ((0 : Nat) : Int) = x.r10 from by unfold CrewWorld.doReader; rw [if_neg h2, if_neg hp, if_neg h0]; rfl)
  clear hk h2
  have HWA := hide (HW.out.alloc (.cells #[.int .i64 (x.next - 1)] 3))
  obtain ⟨uq_, huq_⟩ := HWA.out.ws.q
  have HQq := hide huq_
  clear huq_
  have hq8 := k1
  go_upto_region 15 with (first | (at_builtin; refine wpl_app rfl _ _ 22 rfl ib _ 8 Try.underlying22 HIb.out jb0 jb1 jb2 rfl (by decide) intC_len rfl HQq.out [x.next - 1] (int_srcP (show (Lit.int .i64 (x.next - 1)).wf = true from WalkArith.wf_i64 (by omega)) _) (by exact New.nil _ _) (fun q _ hq => by cases hq) _ _ _ rfl rfl (SrcAt.new w1 _ _ _ _) (by first | omega | (simp only [List.length_append, List.length_cons, List.length_nil]; omega)) (by decide) HWA.out.sz ?_; intro w5A w5n w5c w5 hn5 hown5 hgb5; have HP5 := hide (HWA.out.app_q hgb5 hown5); have hr5 := hgb5.row HWA.out.box (HWA.out.free (.slice A1 x.queue.length c1) (by simp [V7.list])); have w5x3 : w5.cell? ⟨w.heap.size, 3, none⟩ = some (.int .i64 x.next) := hr5.cell 3; have w5x4 : w5.cell? ⟨w.heap.size, 4, none⟩ = some (.int .i64 x.reader) := hr5.cell 4; have w5x5 : w5.cell? ⟨w.heap.size, 5, none⟩ = some (.slice A1 x.queue.length c1) := hr5.cell 5; have w5x17 : w5.cell? ⟨w.heap.size, 17, none⟩ = some (.int .i64 x.ops) := hr5.cell 17; have w5y4 := hr5.frozen 4; have w5y5 := hr5.frozen 5; have w5y17 := hr5.frozen 17; have w5l := hr5.lt; clear hown5 hgb5 hn5 hr5) | fail)
  have HF := hide (show Wz w _ w.heap.size B _ id x.r10 _ from (HP5.out.set_reader 0).set_ops (x.ops + 1))
  generalize hWW : World.setCell _ _ _ = W at HF ⊢
  clear hWW
  obtain ⟨vv, hvv⟩ : ∃ vv, Wz w W w.heap.size B [(w.heap.size + 1, 30, zeroCells)] id (x.r10) vv := ⟨_, HF.out⟩
  replace HF := hide hvv
  clear hvv
  have hzl := HF.out.row0.lt
  have hbl := HF.out.lt
  simp only at hzl
  go_wp2_with (first | (refine wpList_load_row rfl 30 _ rfl (w.heap.size) rfl 30 (vv.cells (x.r10)).toArray (0, 0) _ HF.out.box Try.underlying30 rfl (by kernel_rfl) ?_) | (refine wpList_store_row rfl 30 _ _ rfl (w.heap.size + 1) (vv.cells (x.r10)).toArray rfl rfl 30 zeroCells.toArray HF.out.row0 (by kernel_rfl) rfl HF.out.ws.one ?_) | fail)
  refine bodyPost_ret (ret_row rfl _ _ (w.heap.size + 1) 30 (vv.cells (x.r10)) (HF.out.row0.setRow' (vv.cells (x.r10))) _ rfl Try.underlying30 rfl (by kernel_rfl)) rfl ?_
  exact HF.out.done HYO.out (by omega) HE.out
end Go.Proofs.Ytpkjjfnfolbcoaa
