/-
  A way of a worker, done: the reference. A way of the keeper, done: the reference.
-/
import Derived.StillTailTactics
import Derived.Test.YtpkjjfnfolbcoaaQCrewW1
import Derived.Test.YtpkjjfnfolbcoaaQPlayS2
set_option linter.unusedVariables false
set_option linter.unusedSimpArgs false
namespace Go.Proofs.Ytpkjjfnfolbcoaa
open Go.ChangeShapes Go.WideShapes Go.ChangeAt Go.RowKit

theorem Wz.handRow {w0 W : World} {b B z : Nat} {f : List Value → List Value} {x : CrewWorld} {v : V7} (h : Wz w0 W b B [(z, 30, zeroCells)] f x v) (hB : B ≤ W.heap.size) (cs : List Value) : Wz w0 (W.alloc (.cells cs.toArray 88)) b B [(W.heap.size, 88, cs), (z, 30, zeroCells)] f x v := by
  have hl := h.lt
  refine Wz.addRow (h.alloc _) (Row.new W _ _) (h.ws.freeNew (Nat.le_refl _)) (by omega)
/-- the hand's own box is written -/
theorem Wz.handPut {w0 W : World} {b B z g : Nat} {f : List Value → List Value} {x : CrewWorld} {v : V7} {cs : List Value} (h : Wz w0 W b B [(g, 88, cs), (z, 30, zeroCells)] f x v) (hg : B ≤ g) (hz : z ≠ g) (i : Nat) (u : Value) : Wz w0 (W.setCell ⟨g, i, none⟩ u) b B [(g, 88, cs.set i u), (z, 30, zeroCells)] f x v := by
  have h1 := h.dropRow.aside (g := g) h.free0 h.ne0 hg (fun r hr => by
    simp only [List.mem_singleton] at hr
    subst hr
    exact hz) i u
  exact h1.addRow (h.row0.set i u) h.free0 h.ne0
theorem Wz.dropHand {w0 W : World} {b B : Nat} {f : List Value → List Value} {x : CrewWorld} {v : V7} {p q : Nat × TypeId × List Value} (h : Wz w0 W b B [p, q] f x v) : Wz w0 W b B [q] f x v := h.dropRow
theorem Wz.doneQ {w W : World} {B z : Nat} {x : CrewWorld} {v : V7} {b : Nat} {u : Value} (h : Wz w W b B [(z, 30, zeroCells)] (fun l => l.set 5 u) x v) {l : List Int} {fq : List Nat} (hu : Ow W (.s 1 l.length (l.flatMap intC)) u fq) (hq : Lt fq W.heap.size) (hnz : z ∉ fq) (hqb : ∀ g ∈ fq, B ≤ g) {y' : CrewWorld} (hy : y'.ok) (hz : B ≤ z) (he : y' = { x with queue := l }) :
    DoOut y' B w (.returned (.agg ((v.cells x).set 5 u).toArray)) (W.setRow z ((v.cells x).set 5 u).toArray) := by
  subst he
  have hg := setRow_grown (grown_refl W (some z)) ((v.cells x).set 5 u).toArray
  obtain ⟨fp, h1, h2, h3⟩ := (h.ws.kept hg h.free0).owc_q (hu.grown hg hq hnz) (hq.mono hg.size) hqb (ok_wf hy)
  exact ⟨_, fp, rfl, h1, h2, h3, h.fr.trans (below_of_grown hg hz h.sz)⟩
theorem Wz.doneR {w W : World} {B z : Nat} {x : CrewWorld} {v : V7} {b : Nat} {u : Value} (h : Wz w W b B [(z, 30, zeroCells)] (fun l => l.set 8 u) x v) {l : List Int} {fq : List Nat} (hu : Ow W (.s 1 l.length (l.flatMap intC)) u fq) (hq : Lt fq W.heap.size) (hnz : z ∉ fq) (hqb : ∀ g ∈ fq, B ≤ g) {y' : CrewWorld} (hy : y'.ok) (hz : B ≤ z) (he : y' = { x with results := l }) :
    DoOut y' B w (.returned (.agg ((v.cells x).set 8 u).toArray)) (W.setRow z ((v.cells x).set 8 u).toArray) := by
  subst he
  have hg := setRow_grown (grown_refl W (some z)) ((v.cells x).set 8 u).toArray
  obtain ⟨fp, h1, h2, h3⟩ := (h.ws.kept hg h.free0).owc_r (hu.grown hg hq hnz) (hq.mono hg.size) hqb (ok_wf hy)
  exact ⟨_, fp, rfl, h1, h2, h3, h.fr.trans (below_of_grown hg hz h.sz)⟩
theorem Ws.one_set {W : World} {B : Nat} {x : CrewWorld} {v : V7} (h : Ws W B x v) (i : Nat) {u : Value} (hu : u.oneCell' = true) : ((v.cells x).set i u).toArray.all (·.oneCell') = true := by
  have h1 := h.one
  simp only [List.all_toArray, List.all_eq_true] at h1 ⊢
  intro y hy
  rcases List.mem_or_eq_of_mem_set hy with h2 | h2
  · exact h1 y h2
  · exact h2 ▸ hu
set_option maxRecDepth 100000 in
set_option maxHeartbeats 4000000 in
theorem l52DoWorker_any (x : CrewWorld) (v : V7) (B : Nat) (w : World) (hs : Ws w B x v) (hB : B ≤ w.heap.size) (hok : x.ok) (i k : Nat) (hi : i < x.hands.length) (hk : (x.hw (x.hnd i))[k]? = some true) : Calls Try.prog 127 #[.agg (v.cells x).toArray, .int .i64 (i : Int), .int .i64 (k : Int)] w (DoOut (x.doHand i (k : Int)) B w) := by
  have HYO := hide (ok_hd hok hi hk).1
  have HOK := hide hok
  obtain ⟨k1, k2, k3, k4, k5, k6, k7⟩ := ok_lens hok
  obtain ⟨k0n, k1n, k2n, k3n, k4n, k5n, k6n⟩ := ok_nums hok
  obtain ⟨s2, s4, s7, sh_, sr_⟩ := ok_some hok
  have SH := hide sh_
  have SR := hide sr_
  clear sh_ sr_
  obtain ⟨vq, vh, vr, vg, vo, vt, vs⟩ := v
  obtain ⟨A1, c1, e1⟩ := hs.q.form
  change vq = _ at e1
  subst e1
  obtain ⟨g2, c2, e2, b2, l2, -⟩ := hs.h.at0 (by show 0 < x.hands.length; omega)
  change vh = _ at e2
  subst e2
  obtain ⟨A3, c3, e3⟩ := hs.r.form
  change vr = _ at e3
  subst e3
  obtain ⟨g4, c4, e4, b4, l4, -⟩ := hs.g.at0 (by show 0 < x.ring.length; omega)
  change vg = _ at e4
  subst e4
  obtain ⟨A5, c5, e5⟩ := hs.o.form
  change vo = _ at e5
  subst e5
  obtain ⟨A6, c6, e6⟩ := hs.t.form
  change vt = _ at e6
  subst e6
  obtain ⟨g7, c7, e7, b7, l7, -⟩ := hs.s.at0 (by show 0 < x.shut.length; omega)
  change vs = _ at e7
  subst e7
  have hi8 : i < 8 := by omega
  have hiI : (i : Int) < (x.hands.length : Int) := by omega
  have HN := hide (hnd_at hi)
  obtain ⟨ib, hib, jb0, jb1, jb2⟩ := info_parts info_int
  have HIb := hide hib
  clear hib
  go_enter Try.func127, Try.ntmps127
  go_upto_region 1 with fail
  have HS := hide hs
  generalize hw1 : (w.alloc _).alloc _ = w1
  have HW := hide (show Wz w w1 w.heap.size B [(w.heap.size + 1, 30, zeroCells)] id x (⟨.slice A1 x.queue.length c1, .slice (some ⟨g2, 0, none⟩) x.hands.length c2, .slice A3 x.results.length c3, .slice (some ⟨g4, 0, none⟩) x.ring.length c4, .slice A5 x.out.length c5, .slice A6 x.got.length c6, .slice (some ⟨g7, 0, none⟩) x.shut.length c7⟩ : V7) from by rw [← hw1]; exact Wz.start2 hs hB)
  clear hw1 hs
  have hsz := HW.out.row0.lt
  simp only at hsz
  have x5 : w1.cell? ⟨w.heap.size, 5, none⟩ = some (.slice A1 x.queue.length c1) := HW.out.box.cell 5
  have x6 : w1.cell? ⟨w.heap.size, 6, none⟩ = some (.slice (some ⟨g2, 0, none⟩) x.hands.length c2) := HW.out.box.cell 6
  have x8 : w1.cell? ⟨w.heap.size, 8, none⟩ = some (.slice A3 x.results.length c3) := HW.out.box.cell 8
  have x17 : w1.cell? ⟨w.heap.size, 17, none⟩ = some (.int .i64 x.ops) := HW.out.box.cell 17
  have xf5 : w1.frozen? ⟨w.heap.size, 5, none⟩ = false := HW.out.box.frozen 5
  have xf8 : w1.frozen? ⟨w.heap.size, 8, none⟩ = false := HW.out.box.frozen 8
  have xf17 : w1.frozen? ⟨w.heap.size, 17, none⟩ = false := HW.out.box.frozen 17
  have xl : w.heap.size < w1.heap.size := HW.out.lt
  have hg2b : g2 ≠ w.heap.size := fun e => HW.out.free (.slice (some ⟨g2, 0, none⟩) x.hands.length c2) (by simp [V7.list]) (congrArg some e)
  have hg2l : g2 < w1.heap.size := (HW.out.ws.h.lt g2 rfl).2
  have hg2z : g2 ≠ w.heap.size + 1 := fun e => HW.out.free0 (.slice (some ⟨g2, 0, none⟩) x.hands.length c2) (by simp [V7.list]) (congrArg some e)
  obtain ⟨hs0, hs1, hwf⟩ := HW.out.ws.h.cellH i hi
  have hz0 := HW.out.ws.h.froz s2 (i * 2)
  have hz1 := HW.out.ws.h.froz s2 (i * 2 + 1)
  rw [HN.out] at hs0 hs1 hwf
  obtain ⟨hst, hjb⟩ := hwf
  have HSB := hide (show 0 ≤ (x.hnd i).state ∧ (x.hnd i).state ≤ 3 from by
    have hf := HOK.out.form.fine x.hands[i] (List.getElem_mem hi)
    rw [HN.out] at hf
    exact hf.1)
  go_upto_region 5 with fail
  have HA := hide (HW.out.handRow HW.out.sz [.int .i64 (x.hnd i).state, .int .i64 (x.hnd i).job])
  have hag : B ≤ w1.heap.size := HW.out.sz
  have haz : w.heap.size + 1 ≠ w1.heap.size := by omega
  have hab : w.heap.size ≠ w1.heap.size := by omega
  have hgh : g2 ≠ w1.heap.size := by omega
  generalize hgg : w1.heap.size = gh at HA hag haz hab hgh hg2l ⊢
  generalize hw2 : w1.alloc _ = w2 at HA ⊢
  have hal : Below w1.heap.size w1 w2 := by rw [← hw2]; exact (Below.refl _ _).alloc (Nat.le_refl _) _
  replace hs0 := kc hs0 hal (by rw [hgg]; exact hg2l)
  replace hs1 := kc hs1 hal (by rw [hgg]; exact hg2l)
  have hz0' : w2.frozen? ⟨g2, i * 2, none⟩ = false := (hal.frozen (p := ⟨g2, i * 2, none⟩) (by rw [hgg]; exact hg2l)).trans hz0
  have hz1' : w2.frozen? ⟨g2, i * 2 + 1, none⟩ = false := (hal.frozen (p := ⟨g2, i * 2 + 1, none⟩) (by rw [hgg]; exact hg2l)).trans hz1
  have hg2w : g2 < w2.heap.size := by have := hal.size; omega
  clear hw2 hal hz0 hz1 HW x5 x6 x8 x17 xf5 xf8 xf17 xl
  have x5 : w2.cell? ⟨w.heap.size, 5, none⟩ = some (.slice A1 x.queue.length c1) := HA.out.box.cell 5
  have x6 : w2.cell? ⟨w.heap.size, 6, none⟩ = some (.slice (some ⟨g2, 0, none⟩) x.hands.length c2) := HA.out.box.cell 6
  have x8 : w2.cell? ⟨w.heap.size, 8, none⟩ = some (.slice A3 x.results.length c3) := HA.out.box.cell 8
  have x17 : w2.cell? ⟨w.heap.size, 17, none⟩ = some (.int .i64 x.ops) := HA.out.box.cell 17
  have xf5 : w2.frozen? ⟨w.heap.size, 5, none⟩ = false := HA.out.box.frozen 5
  have xf8 : w2.frozen? ⟨w.heap.size, 8, none⟩ = false := HA.out.box.frozen 8
  have xf17 : w2.frozen? ⟨w.heap.size, 17, none⟩ = false := HA.out.box.frozen 17
  have xl : w.heap.size < w2.heap.size := HA.out.lt
  have hr0 : w2.cell? ⟨gh, 0, none⟩ = some (.int .i64 (x.hnd i).state) := HA.out.row0.cell 0
  have hr1 : w2.cell? ⟨gh, 1, none⟩ = some (.int .i64 (x.hnd i).job) := HA.out.row0.cell 1
  have hrf0 : w2.frozen? ⟨gh, 0, none⟩ = false := HA.out.row0.frozen 0
  have hrf1 : w2.frozen? ⟨gh, 1, none⟩ = false := HA.out.row0.frozen 1
  have hrl : gh < w2.heap.size := HA.out.row0.lt
  obtain ⟨wv0, wu0⟩ := wk (x.ops + 1) (by omega) (by omega)
  have HK := hide hk
  clear hk
  generalize HHD : x.hnd i = hd at *
  by_cases hp : 0 < (k : Int)
  · have p0 : decide (0 < (k : Int)) = true := dec_true hp
    have p0n : decide (0 < k) = true := dec_true (by omega)
    by_cases hp2 : (k : Int) = 2
    · have p2 : ((k : Int) == 2) = true := beqt hp2
      have p2n : (k == 2) = true := by simpa using (show k = 2 by omega)
      have HE := hide (show x.doHand i (k : Int) = x.h03 i from by unfold CrewWorld.doHand; rw [if_pos hp2])
      clear hp2 hp
      go_upto_region 16 with fail
      have HF := hide (show Wz w _ w.heap.size B _ id (x.h03 i) _ from ((((HA.out.handPut hag haz 0 (.int .i64 3)).handPut hag haz 1 (.int .i64 0)).set_ops (x.ops + 1)).hand rfl i hi 3 0 (by decide) (by decide)).dropHand)
      generalize hWW : World.setCell _ _ _ = W at HF ⊢
      clear hWW
      obtain ⟨vv, hvv⟩ : ∃ vv, Wz w W w.heap.size B [(w.heap.size + 1, 30, zeroCells)] id (x.h03 i) vv := ⟨_, HF.out⟩
      replace HF := hide hvv
      clear hvv
      have hzl := HF.out.row0.lt
      have hbl := HF.out.lt
      simp only at hzl
      go_wp2_with (first | (refine wpList_load_row rfl 30 _ rfl (w.heap.size) rfl 30 (vv.cells (x.h03 i)).toArray (0, 0) _ HF.out.box Try.underlying30 rfl (by kernel_rfl) ?_) | (refine wpList_store_row rfl 30 _ _ rfl (w.heap.size + 1) (vv.cells (x.h03 i)).toArray rfl rfl 30 zeroCells.toArray HF.out.row0 (by kernel_rfl) rfl HF.out.ws.one ?_) | fail)
      refine bodyPost_ret (ret_row rfl _ _ (w.heap.size + 1) 30 (vv.cells (x.h03 i)) (HF.out.row0.setRow' (vv.cells (x.h03 i))) _ rfl Try.underlying30 rfl (by kernel_rfl)) rfl ?_
      exact HF.out.done HYO.out (by omega) HE.out
    · have p2 : ((k : Int) == 2) = false := beqf hp2
      have p2n : (k == 2) = false := by simpa using (show ¬ k = 2 by omega)
      have HE := hide (show x.doHand i (k : Int) = x.h3s i from by unfold CrewWorld.doHand; rw [if_neg hp2, if_pos hp])
      clear hp2 hp
      go_upto_region 16 with fail
      have HF := hide (show Wz w _ w.heap.size B _ id (x.h3s i) _ from (((HA.out.handPut hag haz 0 (.int .i64 3)).handPut hag haz 1 (.int .i64 0)).hand rfl i hi 3 0 (by decide) (by decide)).dropHand)
      generalize hWW : World.setCell _ _ _ = W at HF ⊢
      clear hWW
      obtain ⟨vv, hvv⟩ : ∃ vv, Wz w W w.heap.size B [(w.heap.size + 1, 30, zeroCells)] id (x.h3s i) vv := ⟨_, HF.out⟩
      replace HF := hide hvv
      clear hvv
      have hzl := HF.out.row0.lt
      have hbl := HF.out.lt
      simp only at hzl
      go_wp2_with (first | (refine wpList_load_row rfl 30 _ rfl (w.heap.size) rfl 30 (vv.cells (x.h3s i)).toArray (0, 0) _ HF.out.box Try.underlying30 rfl (by kernel_rfl) ?_) | (refine wpList_store_row rfl 30 _ _ rfl (w.heap.size + 1) (vv.cells (x.h3s i)).toArray rfl rfl 30 zeroCells.toArray HF.out.row0 (by kernel_rfl) rfl HF.out.ws.one ?_) | fail)
      refine bodyPost_ret (ret_row rfl _ _ (w.heap.size + 1) 30 (vv.cells (x.h3s i)) (HF.out.row0.setRow' (vv.cells (x.h3s i))) _ rfl Try.underlying30 rfl (by kernel_rfl)) rfl ?_
      exact HF.out.done HYO.out (by omega) HE.out
  have p0 : decide (0 < (k : Int)) = false := dec_false hp
  have p0n : decide (0 < k) = false := dec_false (by omega)
  have hp2 : ¬ (k : Int) = 2 := by omega
  by_cases h0 : hd.state = 0
  · have r0 : (hd.state == 0) = true := beqt h0
    have hq : 0 < x.queue.length := by
      have h := HK.out
      have hk0 : k = 0 := by omega
      unfold CrewWorld.hw at h
      rw [if_pos h0, hk0] at h
      simpa using h
    have HE := hide (show x.doHand i (k : Int) = x.h01 i from by unfold CrewWorld.doHand; rw [if_neg hp2, if_neg hp, HHD, if_pos h0])
    clear h0 hp2 hp
    obtain ⟨g1, c1', e1, b1, l1, -⟩ := HA.out.ws.q.at0 hq
    injection e1 with e1 e1n e1c
    subst e1 e1c
    clear e1n
    have qc : w2.cell? ⟨g1, 0, none⟩ = some (.int .i64 (x.queue[0]?.getD 0)) := by rw [List.getElem?_eq_getElem hq]; exact (HA.out.ws.q.cell 0 hq).1
    have qw : (Lit.int .i64 (x.queue[0]?.getD 0)).wf = true := by rw [List.getElem?_eq_getElem hq]; exact (HA.out.ws.q.cell 0 hq).2
    generalize hjj : x.queue[0]?.getD 0 = j at qc qw
    have hg1b : g1 ≠ w.heap.size := fun e => HA.out.free (.slice (some ⟨g1, 0, none⟩) x.queue.length c1) (by simp [V7.list]) (congrArg some e)
    have hg1h : g1 ≠ gh := fun e => HA.out.free0 (.slice (some ⟨g1, 0, none⟩) x.queue.length c1) (by simp [V7.list]) (congrArg some e)
    have hg1z : g1 ≠ w.heap.size + 1 := fun e => HA.out.dropRow.free0 (.slice (some ⟨g1, 0, none⟩) x.queue.length c1) (by simp [V7.list]) (congrArg some e)
    have hqI : (0 : Int) < (x.queue.length : Int) := by omega
    have hqI1 : (1 : Int) ≤ (x.queue.length : Int) := by omega
    have hqe : ¬ (x.queue = []) := fun e => by rw [e] at hq; exact Nat.lt_irrefl _ hq
    have hqc : x.queue.length ≤ c1 := by
      obtain ⟨fp, ho, -, -⟩ := HA.out.ws.q.ow
      exact ho.nlen.2.1
    have hqcI : (x.queue.length : Int) ≤ (c1 : Int) := by omega
    have hE : x.h01 i = { x with hands := x.hands.set i ⟨1, j⟩, queue := x.queue.drop 1, ops := x.ops + 1 } := by unfold CrewWorld.h01; rw [hjj]
    rw [hE] at HE
    clear hE hjj
    by_cases hc : c1 = 1
    · subst hc
      have hcI : ((1 : Nat) : Int) = 1 := rfl
      go_upto_region 16 with fail
      have HF := hide (show Wz w _ w.heap.size B _ (fun l => l.set 5 (.slice (some ⟨g1, 0, none⟩) 0 0)) { x with hands := x.hands.set i ⟨1, j⟩, ops := x.ops + 1 } _ from (((((HA.out.handPut hag haz 0 (.int .i64 1)).handPut hag haz 1 (.int .i64 j)).put 5 (.slice (some ⟨g1, 0, none⟩) 0 0) (fun l => l.set 5 (.slice (some ⟨g1, 0, none⟩) 0 0)) x rfl id).set_ops (x.ops + 1)).hand rfl i hi 1 j (by decide) qw).dropHand)
      generalize hWW : World.setCell _ _ _ = W at HF ⊢
      clear hWW
      have HT := HF.out.ws.q.tail (show 0 < x.queue.length from hq)
      obtain ⟨fq, hu, hq, hnz, hqb⟩ : ∃ fq, Ow W (.s 1 (x.queue.drop 1).length ((x.queue.drop 1).flatMap intC)) (.slice (some ⟨g1, 0, none⟩) 0 0) fq ∧ Lt fq W.heap.size ∧ w.heap.size + 1 ∉ fq ∧ ∀ q ∈ fq, B ≤ q := by
        rcases HT with ⟨_, hl1, ho⟩ | ⟨h1, _⟩
        · exact ⟨[], ho _ _ (by unfold maxLen; omega), Lt.nil _, by simp, by simp⟩
        · exact absurd rfl h1
      have HU := hide hu
      clear hu HT
      obtain ⟨vv, hvv⟩ : ∃ vv, Wz w W w.heap.size B [(w.heap.size + 1, 30, zeroCells)] (fun l => l.set 5 (.slice (some ⟨g1, 0, none⟩) 0 0)) ({ x with hands := x.hands.set i ⟨1, j⟩, ops := x.ops + 1 }) vv := ⟨_, HF.out⟩
      replace HF := hide hvv
      clear hvv
      have hzl := HF.out.row0.lt
      have hbl := HF.out.lt
      simp only at hzl
      obtain ⟨cs, hcs⟩ : ∃ cs, cs = (vv.cells ({ x with hands := x.hands.set i ⟨1, j⟩, ops := x.ops + 1 })).set 5 (.slice (some ⟨g1, 0, none⟩) 0 0) := ⟨_, rfl⟩
      have HBX := hide (show Row W (w.heap.size) 30 cs from by rw [hcs]; exact HF.out.box)
      have HON := hide (show cs.toArray.all (·.oneCell') = true from by rw [hcs]; exact HF.out.ws.one_set 5 rfl)
      have HSI := hide (show (Try.prog.info? 30).map (·.size) = some cs.toArray.size from by rw [hcs]; kernel_rfl)
      have HSL := hide (show zeroCells.toArray.size = cs.toArray.size from by rw [hcs]; rfl)
      have HCS := hide hcs
      clear hcs
      go_wp2_with (first | (refine wpList_load_row rfl 30 _ rfl (w.heap.size) rfl 30 cs.toArray (0, 0) _ HBX.out Try.underlying30 rfl HSI.out ?_) | (refine wpList_store_row rfl 30 _ _ rfl (w.heap.size + 1) cs.toArray rfl rfl 30 zeroCells.toArray HF.out.row0 HSI.out HSL.out HON.out ?_) | fail)
      refine bodyPost_ret (ret_row rfl _ _ (w.heap.size + 1) 30 cs (HF.out.row0.setRow' cs) _ rfl Try.underlying30 rfl (by simpa using HSI.out)) rfl ?_
      rw [HCS.out]
      exact HF.out.doneQ HU.out hq hnz hqb HYO.out (by omega) HE.out
    · have hcI : ¬ ((c1 : Int) = 1) := by omega
      go_upto_region 16 with fail
      have HF := hide (show Wz w _ w.heap.size B _ (fun l => l.set 5 (.slice (some ⟨g1, 1, none⟩) (x.queue.length - 1) (c1 - 1))) { x with hands := x.hands.set i ⟨1, j⟩, ops := x.ops + 1 } _ from (((((HA.out.handPut hag haz 0 (.int .i64 1)).handPut hag haz 1 (.int .i64 j)).put 5 (.slice (some ⟨g1, 1, none⟩) (x.queue.length - 1) (c1 - 1)) (fun l => l.set 5 (.slice (some ⟨g1, 1, none⟩) (x.queue.length - 1) (c1 - 1))) x rfl id).set_ops (x.ops + 1)).hand rfl i hi 1 j (by decide) qw).dropHand)
      generalize hWW : World.setCell _ _ _ = W at HF ⊢
      clear hWW
      have HT := HF.out.ws.q.tail (show 0 < x.queue.length from hq)
      obtain ⟨fq, hu, hq, hnz, hqb⟩ : ∃ fq, Ow W (.s 1 (x.queue.drop 1).length ((x.queue.drop 1).flatMap intC)) (.slice (some ⟨g1, 1, none⟩) (x.queue.length - 1) (c1 - 1)) fq ∧ Lt fq W.heap.size ∧ w.heap.size + 1 ∉ fq ∧ ∀ q ∈ fq, B ≤ q := by
        rcases HT with ⟨h1, _, _⟩ | ⟨_, fq, ho, hl, hz⟩
        · exact absurd h1 hc
        · exact ⟨fq, ho, hl, fun hm => hg1z (hz _ hm).symm, fun q hm => by rw [hz q hm]; exact b1⟩
      have HU := hide hu
      clear hu HT
      obtain ⟨vv, hvv⟩ : ∃ vv, Wz w W w.heap.size B [(w.heap.size + 1, 30, zeroCells)] (fun l => l.set 5 (.slice (some ⟨g1, 1, none⟩) (x.queue.length - 1) (c1 - 1))) ({ x with hands := x.hands.set i ⟨1, j⟩, ops := x.ops + 1 }) vv := ⟨_, HF.out⟩
      replace HF := hide hvv
      clear hvv
      have hzl := HF.out.row0.lt
      have hbl := HF.out.lt
      simp only at hzl
      obtain ⟨cs, hcs⟩ : ∃ cs, cs = (vv.cells ({ x with hands := x.hands.set i ⟨1, j⟩, ops := x.ops + 1 })).set 5 (.slice (some ⟨g1, 1, none⟩) (x.queue.length - 1) (c1 - 1)) := ⟨_, rfl⟩
      have HBX := hide (show Row W (w.heap.size) 30 cs from by rw [hcs]; exact HF.out.box)
      have HON := hide (show cs.toArray.all (·.oneCell') = true from by rw [hcs]; exact HF.out.ws.one_set 5 rfl)
      have HSI := hide (show (Try.prog.info? 30).map (·.size) = some cs.toArray.size from by rw [hcs]; kernel_rfl)
      have HSL := hide (show zeroCells.toArray.size = cs.toArray.size from by rw [hcs]; rfl)
      have HCS := hide hcs
      clear hcs
      go_wp2_with (first | (refine wpList_load_row rfl 30 _ rfl (w.heap.size) rfl 30 cs.toArray (0, 0) _ HBX.out Try.underlying30 rfl HSI.out ?_) | (refine wpList_store_row rfl 30 _ _ rfl (w.heap.size + 1) cs.toArray rfl rfl 30 zeroCells.toArray HF.out.row0 HSI.out HSL.out HON.out ?_) | fail)
      refine bodyPost_ret (ret_row rfl _ _ (w.heap.size + 1) 30 cs (HF.out.row0.setRow' cs) _ rfl Try.underlying30 rfl (by simpa using HSI.out)) rfl ?_
      rw [HCS.out]
      exact HF.out.doneQ HU.out hq hnz hqb HYO.out (by omega) HE.out
  have r0 : (hd.state == 0) = false := beqf h0
  by_cases h1 : hd.state = 1
  · have r1 : (hd.state == 1) = true := beqt h1
    have HE := hide (show x.doHand i (k : Int) = x.h12 i from by unfold CrewWorld.doHand; rw [if_neg hp2, if_neg hp, HHD, if_neg h0, if_pos h1])
    clear h1 h0 hp2 hp
    go_upto_region 16 with fail
    have HF := hide (show Wz w _ w.heap.size B _ id (x.h12 i) _ from by rw [show x.h12 i = { x with hands := x.hands.set i ⟨2, hd.job⟩ } from by unfold CrewWorld.h12; rw [HHD]]; exact ((HA.out.handPut hag haz 0 (.int .i64 2)).hand rfl i hi 2 hd.job (by decide) hjb).dropHand)
    generalize hWW : World.setCell _ _ _ = W at HF ⊢
    clear hWW
    obtain ⟨vv, hvv⟩ : ∃ vv, Wz w W w.heap.size B [(w.heap.size + 1, 30, zeroCells)] id (x.h12 i) vv := ⟨_, HF.out⟩
    replace HF := hide hvv
    clear hvv
    have hzl := HF.out.row0.lt
    have hbl := HF.out.lt
    simp only at hzl
    go_wp2_with (first | (refine wpList_load_row rfl 30 _ rfl (w.heap.size) rfl 30 (vv.cells (x.h12 i)).toArray (0, 0) _ HF.out.box Try.underlying30 rfl (by kernel_rfl) ?_) | (refine wpList_store_row rfl 30 _ _ rfl (w.heap.size + 1) (vv.cells (x.h12 i)).toArray rfl rfl 30 zeroCells.toArray HF.out.row0 (by kernel_rfl) rfl HF.out.ws.one ?_) | fail)
    refine bodyPost_ret (ret_row rfl _ _ (w.heap.size + 1) 30 (vv.cells (x.h12 i)) (HF.out.row0.setRow' (vv.cells (x.h12 i))) _ rfl Try.underlying30 rfl (by kernel_rfl)) rfl ?_
    exact HF.out.done HYO.out (by omega) HE.out
  have r1 : (hd.state == 1) = false := beqf h1
  have HE := hide (show x.doHand i (k : Int) = x.h20 i from by unfold CrewWorld.doHand; rw [if_neg hp2, if_neg hp, HHD, if_neg h0, if_neg h1])
  clear h1 h0 hp2 hp
  have HWA := hide (HA.out.alloc (.cells #[.int .i64 hd.job] 3))
  obtain ⟨ur_, hur_⟩ := HWA.out.ws.r
  have HQr := hide hur_
  clear hur_
  go_upto_region 16 with (first | (at_builtin; refine wpl_app rfl _ _ 22 rfl ib _ 8 Try.underlying22 HIb.out jb0 jb1 jb2 rfl (by decide) intC_len rfl HQr.out [hd.job] (int_srcP hjb _) (by exact New.nil _ _) (fun q _ hq => by cases hq) _ _ _ rfl rfl (SrcAt.new w2 _ _ _ _) (by first | omega | (simp only [List.length_append, List.length_cons, List.length_nil]; omega)) (by decide) HWA.out.sz ?_; intro w5A w5n w5c w5 hn5 hown5 hgb5; have HP5 := hide (HWA.out.app_r hgb5 hown5); have hr5 := hgb5.row HWA.out.box (HWA.out.free (.slice A3 x.results.length c3) (by simp [V7.list])); have w5x6 : w5.cell? ⟨w.heap.size, 6, none⟩ = some (.slice (some ⟨g2, 0, none⟩) x.hands.length c2) := hr5.cell 6; have w5x8 : w5.cell? ⟨w.heap.size, 8, none⟩ = some (.slice A3 x.results.length c3) := hr5.cell 8; have w5x17 : w5.cell? ⟨w.heap.size, 17, none⟩ = some (.int .i64 x.ops) := hr5.cell 17; have w5y8 := hr5.frozen 8; have w5y17 := hr5.frozen 17; have w5l := hr5.lt; have hq5 := hgb5.row HWA.out.row0 (HWA.out.free0 (.slice A3 x.results.length c3) (by simp [V7.list])); have w5h0 : w5.cell? ⟨gh, 0, none⟩ = some (.int .i64 hd.state) := hq5.cell 0; have w5h1 : w5.cell? ⟨gh, 1, none⟩ = some (.int .i64 hd.job) := hq5.cell 1; have w5f0 : w5.frozen? ⟨gh, 0, none⟩ = false := hq5.frozen 0; have w5f1 : w5.frozen? ⟨gh, 1, none⟩ = false := hq5.frozen 1; have w5gl : gh < w5.heap.size := hq5.lt; have hs5 := HWA.out.ws.app_r hgb5 hown5; have w5g2 : g2 < w5.heap.size := (hs5.h.lt g2 rfl).2; have w5z0 := hs5.h.froz s2 (i * 2); have w5z1 := hs5.h.froz s2 (i * 2 + 1); have w5c0 := (hs5.h.cellH i hi).1; have w5c1 := (hs5.h.cellH i hi).2.1; clear hs5 hq5; clear hown5 hgb5 hn5 hr5) | fail)
  have HF := hide (show Wz w _ w.heap.size B _ id (x.h20 i) _ from by rw [show x.h20 i = { x with hands := x.hands.set i ⟨0, 0⟩, results := x.results ++ [hd.job], ops := x.ops + 1 } from by unfold CrewWorld.h20; rw [HHD]]; exact ((((HP5.out.handPut hag haz 0 (.int .i64 0)).handPut hag haz 1 (.int .i64 0)).set_ops (x.ops + 1)).hand rfl i hi 0 0 (by decide) (by decide)).dropHand)
  generalize hWW : World.setCell _ _ _ = W at HF ⊢
  clear hWW
  obtain ⟨vv, hvv⟩ : ∃ vv, Wz w W w.heap.size B [(w.heap.size + 1, 30, zeroCells)] id (x.h20 i) vv := ⟨_, HF.out⟩
  replace HF := hide hvv
  clear hvv
  have hzl := HF.out.row0.lt
  have hbl := HF.out.lt
  simp only at hzl
  go_wp2_with (first | (refine wpList_load_row rfl 30 _ rfl (w.heap.size) rfl 30 (vv.cells (x.h20 i)).toArray (0, 0) _ HF.out.box Try.underlying30 rfl (by kernel_rfl) ?_) | (refine wpList_store_row rfl 30 _ _ rfl (w.heap.size + 1) (vv.cells (x.h20 i)).toArray rfl rfl 30 zeroCells.toArray HF.out.row0 (by kernel_rfl) rfl HF.out.ws.one ?_) | fail)
  refine bodyPost_ret (ret_row rfl _ _ (w.heap.size + 1) 30 (vv.cells (x.h20 i)) (HF.out.row0.setRow' (vv.cells (x.h20 i))) _ rfl Try.underlying30 rfl (by kernel_rfl)) rfl ?_
  exact HF.out.done HYO.out (by omega) HE.out
end Go.Proofs.Ytpkjjfnfolbcoaa
set_option linter.unusedVariables false
set_option linter.unusedSimpArgs false
namespace Go.Proofs.Ytpkjjfnfolbcoaa
open Go.ChangeShapes Go.WideShapes Go.ChangeAt Go.RowKit

theorem form_keeper {x : CrewWorld} (h : x.Form) (k : Int) (hk : 0 ≤ k ∧ k ≤ 5) : ({ x with keeper := k } : CrewWorld).Form := ⟨h.start, h.next, h.due, h.room, h.ops, h.hands, h.ring, h.shut, h.queue, h.results, h.out, h.shuts, h.fine, h.reader, h.closer, hk, h.user⟩
theorem wf_keeper {x : CrewWorld} (h : x.Wf) (k : Int) (hk : (Lit.int .i64 k).wf = true) : ({ x with keeper := k } : CrewWorld).Wf := ⟨h.jobs, h.workers, h.window, h.next, h.reader, h.closer, hk, h.due, h.user, h.room, h.ops⟩
/-- the place of a job in the ring -/
theorem slot_at {x : CrewWorld} (h : x.ok) {j : Int} (h0 : 0 ≤ j) : ∃ p : Nat, p < x.ring.length ∧ Int.tmod j x.window = (p : Int) ∧ p = (j % x.window).toNat ∧ x.window ≠ 0 := by
  obtain ⟨h1, h2, h3⟩ := slot_lt h j
  refine ⟨(j % x.window).toNat, h3, ?_, rfl, by omega⟩
  rw [Int.tmod_eq_emod_of_nonneg h0]
  omega
theorem results_nn {x : CrewWorld} (h : x.ok) {j : Int} (hj : j ∈ x.results) : 0 ≤ j := by
  have h1 := (h.placed.within j (by unfold CrewWorld.places; simp [hj])).1
  have h2 := h.form.due
  omega
set_option maxRecDepth 100000 in
set_option maxHeartbeats 4000000 in
theorem l52DoKeeper_any (x : CrewWorld) (v : V7) (B : Nat) (w : World) (hs : Ws w B x v) (hB : B ≤ w.heap.size) (hok : x.ok) (k : Nat) (hk : x.kw[k]? = some true) : Calls Try.prog 128 #[.agg (v.cells x).toArray, .int .i64 (k : Int)] w (DoOut (x.doKeeper (k : Int)) B w) := by
  have HYO := hide (ok_kp hok hk).1
  have HOK := hide hok
  obtain ⟨k1, k2, k3, k4, k5, k6, k7⟩ := ok_lens hok
  obtain ⟨k0n, k1n, k2n, k3n, k4n, k5n, k6n⟩ := ok_nums hok
  obtain ⟨s2, s4, s7, sh_, sr_⟩ := ok_some hok
  have SH := hide sh_
  have SR := hide sr_
  clear sh_ sr_
  obtain ⟨vq, vh, vr, vg, vo, vt, vs⟩ := v
  obtain ⟨A1, c1, e1⟩ := hs.q.form
  change vq = _ at e1
  subst e1
  obtain ⟨g2, c2, e2, b2, l2, -⟩ := hs.h.at0 (by show 0 < x.hands.length; omega)
  change vh = _ at e2
  subst e2
  obtain ⟨A3, c3, e3⟩ := hs.r.form
  change vr = _ at e3
  subst e3
  obtain ⟨g4, c4, e4, b4, l4, -⟩ := hs.g.at0 (by show 0 < x.ring.length; omega)
  change vg = _ at e4
  subst e4
  obtain ⟨A5, c5, e5⟩ := hs.o.form
  change vo = _ at e5
  subst e5
  obtain ⟨A6, c6, e6⟩ := hs.t.form
  change vt = _ at e6
  subst e6
  obtain ⟨g7, c7, e7, b7, l7, -⟩ := hs.s.at0 (by show 0 < x.shut.length; omega)
  change vs = _ at e7
  subst e7
  have hkr := hok.form.keeper
  obtain ⟨ib, hib, jb0, jb1, jb2⟩ := info_parts info_int
  have HIb := hide hib
  clear hib
  go_enter Try.func128, Try.ntmps128
  go_upto_region 4 with fail
  have HS := hide hs
  generalize hw1 : (w.alloc _).alloc _ = w1
  have HW := hide (show Wz w w1 w.heap.size B [(w.heap.size + 1, 30, zeroCells)] id x (⟨.slice A1 x.queue.length c1, .slice (some ⟨g2, 0, none⟩) x.hands.length c2, .slice A3 x.results.length c3, .slice (some ⟨g4, 0, none⟩) x.ring.length c4, .slice A5 x.out.length c5, .slice A6 x.got.length c6, .slice (some ⟨g7, 0, none⟩) x.shut.length c7⟩ : V7) from by rw [← hw1]; exact Wz.start2 hs hB)
  clear hw1 hs
  have hsz := HW.out.row0.lt
  simp only at hsz
  have x2 : w1.cell? ⟨w.heap.size, 2, none⟩ = some (.int .i64 x.window) := HW.out.box.cell 2
  have x8 : w1.cell? ⟨w.heap.size, 8, none⟩ = some (.slice A3 x.results.length c3) := HW.out.box.cell 8
  have x9 : w1.cell? ⟨w.heap.size, 9, none⟩ = some (.int .i64 x.keeper) := HW.out.box.cell 9
  have x10 : w1.cell? ⟨w.heap.size, 10, none⟩ = some (.slice (some ⟨g4, 0, none⟩) x.ring.length c4) := HW.out.box.cell 10
  have x11 : w1.cell? ⟨w.heap.size, 11, none⟩ = some (.int .i64 x.due) := HW.out.box.cell 11
  have x12 : w1.cell? ⟨w.heap.size, 12, none⟩ = some (.slice A5 x.out.length c5) := HW.out.box.cell 12
  have x15 : w1.cell? ⟨w.heap.size, 15, none⟩ = some (.int .i64 x.room) := HW.out.box.cell 15
  have x16 : w1.cell? ⟨w.heap.size, 16, none⟩ = some (.slice (some ⟨g7, 0, none⟩) x.shut.length c7) := HW.out.box.cell 16
  have x17 : w1.cell? ⟨w.heap.size, 17, none⟩ = some (.int .i64 x.ops) := HW.out.box.cell 17
  have xf8 : w1.frozen? ⟨w.heap.size, 8, none⟩ = false := HW.out.box.frozen 8
  have xf9 : w1.frozen? ⟨w.heap.size, 9, none⟩ = false := HW.out.box.frozen 9
  have xf11 : w1.frozen? ⟨w.heap.size, 11, none⟩ = false := HW.out.box.frozen 11
  have xf12 : w1.frozen? ⟨w.heap.size, 12, none⟩ = false := HW.out.box.frozen 12
  have xf15 : w1.frozen? ⟨w.heap.size, 15, none⟩ = false := HW.out.box.frozen 15
  have xf17 : w1.frozen? ⟨w.heap.size, 17, none⟩ = false := HW.out.box.frozen 17
  have xl : w.heap.size < w1.heap.size := HW.out.lt
  have hg7b : g7 ≠ w.heap.size := fun e => HW.out.free (.slice (some ⟨g7, 0, none⟩) x.shut.length c7) (by simp [V7.list]) (congrArg some e)
  have hg7l : g7 < w1.heap.size := (HW.out.ws.s.lt g7 rfl).2
  have z7_0 : w1.cell? ⟨g7, 2, none⟩ = some (.int .i64 (x.shut[2]'(by omega))) := (HW.out.ws.s.cell 2 (by omega)).1
  have zf7_0 : w1.frozen? ⟨g7, 2, none⟩ = false := HW.out.ws.s.froz (by omega) 2
  obtain ⟨wv0, wu0⟩ := wk (x.ops + 1) (by omega) (by omega)
  obtain ⟨wv1, wu1⟩ := wk (x.room + 1) (by omega) (by omega)
  obtain ⟨wv2, wu2⟩ := wk (x.due + 1) (by omega) (by omega)
  have HK := hide hk
  clear hk
  by_cases hp : 0 < (k : Int)
  · have p0 : decide (0 < (k : Int)) = true := dec_true hp
    have p0n : decide (0 < k) = true := dec_true (by omega)
    by_cases hp2 : (k : Int) = 2
    · have p2 : ((k : Int) == 2) = true := beqt hp2
      have p2n : (k == 2) = true := by simpa using (show k = 2 by omega)
      have HE := hide (show x.doKeeper (k : Int) = x.k4e from by unfold CrewWorld.doKeeper; rw [if_pos hp2])
      clear hp2 hp
      go_upto_region 28 with fail
      have HF := hide (show Wz w _ w.heap.size B _ id (x.k4e) _ from (HW.out.set_keeper 4).set_ops (x.ops + 1))
      generalize hWW : World.setCell _ _ _ = W at HF ⊢
      clear hWW
      obtain ⟨vv, hvv⟩ : ∃ vv, Wz w W w.heap.size B [(w.heap.size + 1, 30, zeroCells)] id (x.k4e) vv := ⟨_, HF.out⟩
      replace HF := hide hvv
      clear hvv
      have hzl := HF.out.row0.lt
      have hbl := HF.out.lt
      simp only at hzl
      go_wp2_with (first | (refine wpList_load_row rfl 30 _ rfl (w.heap.size) rfl 30 (vv.cells (x.k4e)).toArray (0, 0) _ HF.out.box Try.underlying30 rfl (by kernel_rfl) ?_) | (refine wpList_store_row rfl 30 _ _ rfl (w.heap.size + 1) (vv.cells (x.k4e)).toArray rfl rfl 30 zeroCells.toArray HF.out.row0 (by kernel_rfl) rfl HF.out.ws.one ?_) | fail)
      refine bodyPost_ret (ret_row rfl _ _ (w.heap.size + 1) 30 (vv.cells (x.k4e)) (HF.out.row0.setRow' (vv.cells (x.k4e))) _ rfl Try.underlying30 rfl (by kernel_rfl)) rfl ?_
      exact HF.out.done HYO.out (by omega) HE.out
    · have p2 : ((k : Int) == 2) = false := beqf hp2
      have p2n : (k == 2) = false := by simpa using (show ¬ k = 2 by omega)
      have HE := hide (show x.doKeeper (k : Int) = x.k4s from by unfold CrewWorld.doKeeper; rw [if_neg hp2, if_pos hp])
      clear hp2 hp
      go_upto_region 28 with fail
      have HF := hide (show Wz w _ w.heap.size B _ id (x.k4s) _ from HW.out.set_keeper 4)
      generalize hWW : World.setCell _ _ _ = W at HF ⊢
      clear hWW
      obtain ⟨vv, hvv⟩ : ∃ vv, Wz w W w.heap.size B [(w.heap.size + 1, 30, zeroCells)] id (x.k4s) vv := ⟨_, HF.out⟩
      replace HF := hide hvv
      clear hvv
      have hzl := HF.out.row0.lt
      have hbl := HF.out.lt
      simp only at hzl
      go_wp2_with (first | (refine wpList_load_row rfl 30 _ rfl (w.heap.size) rfl 30 (vv.cells (x.k4s)).toArray (0, 0) _ HF.out.box Try.underlying30 rfl (by kernel_rfl) ?_) | (refine wpList_store_row rfl 30 _ _ rfl (w.heap.size + 1) (vv.cells (x.k4s)).toArray rfl rfl 30 zeroCells.toArray HF.out.row0 (by kernel_rfl) rfl HF.out.ws.one ?_) | fail)
      refine bodyPost_ret (ret_row rfl _ _ (w.heap.size + 1) 30 (vv.cells (x.k4s)) (HF.out.row0.setRow' (vv.cells (x.k4s))) _ rfl Try.underlying30 rfl (by kernel_rfl)) rfl ?_
      exact HF.out.done HYO.out (by omega) HE.out
  have p0 : decide (0 < (k : Int)) = false := dec_false hp
  have p0n : decide (0 < k) = false := dec_false (by omega)
  have hp2 : ¬ (k : Int) = 2 := by omega
  by_cases h0 : x.keeper = 0
  · have r0 : (x.keeper == 0) = true := beqt h0
    have hq : 0 < x.results.length := by
      have h := HK.out
      have hk0 : k = 0 := by omega
      unfold CrewWorld.kw at h
      rw [if_pos h0, hk0] at h
      simpa using h
    have HE := hide (show x.doKeeper (k : Int) = x.k01 from by unfold CrewWorld.doKeeper; rw [if_neg hp2, if_neg hp, if_pos h0])
    clear h0 hp2 hp
    obtain ⟨g3, c3', e3, b3, l3, -⟩ := HW.out.ws.r.at0 hq
    injection e3 with e3 e3n e3c
    subst e3 e3c
    clear e3n
    have qm : x.results[0]?.getD 0 ∈ x.results := by rw [List.getElem?_eq_getElem hq]; exact List.getElem_mem hq
    have qn := results_nn HOK.out qm
    have qc : w1.cell? ⟨g3, 0, none⟩ = some (.int .i64 (x.results[0]?.getD 0)) := by rw [List.getElem?_eq_getElem hq]; exact (HW.out.ws.r.cell 0 hq).1
    have qw : (Lit.int .i64 (x.results[0]?.getD 0)).wf = true := by rw [List.getElem?_eq_getElem hq]; exact (HW.out.ws.r.cell 0 hq).2
    generalize hjj : x.results[0]?.getD 0 = j at qc qw qn
    clear qm
    obtain ⟨p, hp4, hrem, hpe, hw0⟩ := slot_at HOK.out qn
    have hE : x.k01 = { x with results := x.results.drop 1, ring := x.ring.set p j, keeper := 1, ops := x.ops + 1 } := by unfold CrewWorld.k01; rw [hjj, ← hpe]
    rw [hE] at HE
    clear hE hjj hpe
    have hg3b : g3 ≠ w.heap.size := fun e => HW.out.free (.slice (some ⟨g3, 0, none⟩) x.results.length c3) (by simp [V7.list]) (congrArg some e)
    have hg3l : g3 < w1.heap.size := (HW.out.ws.r.lt g3 rfl).2
    have hg3z : g3 ≠ w.heap.size + 1 := fun e => HW.out.free0 (.slice (some ⟨g3, 0, none⟩) x.results.length c3) (by simp [V7.list]) (congrArg some e)
    have hqI : (0 : Int) < (x.results.length : Int) := by omega
    have hqI1 : (1 : Int) ≤ (x.results.length : Int) := by omega
    have hqe : ¬ (x.results = []) := fun e => by rw [e] at hq; exact Nat.lt_irrefl _ hq
    have hqc : x.results.length ≤ c3 := by
      obtain ⟨fp, ho, -, -⟩ := HW.out.ws.r.ow
      exact ho.nlen.2.1
    have hqcI : (x.results.length : Int) ≤ (c3 : Int) := by omega
    by_cases hc : c3 = 1
    · subst hc
      have hcI : ((1 : Nat) : Int) = 1 := rfl
      go_upto_region 11 with fail
      have HG := hide (show Wz w _ w.heap.size B _ (fun l => l.set 8 (.slice (some ⟨g3, 0, none⟩) 0 0)) x _ from HW.out.put 8 (.slice (some ⟨g3, 0, none⟩) 0 0) (fun l => l.set 8 (.slice (some ⟨g3, 0, none⟩) 0 0)) x rfl id)
      generalize hw3 : World.setCell _ _ _ = w3 at HG ⊢
      clear hw3 x2 x8 x9 x10 x11 x12 x15 x16 x17 xf8 xf9 xf11 xf12 xf15 xf17 xl
      have x2 : w3.cell? ⟨w.heap.size, 2, none⟩ = some (.int .i64 x.window) := HG.out.box.cell 2
      have x9 : w3.cell? ⟨w.heap.size, 9, none⟩ = some (.int .i64 x.keeper) := HG.out.box.cell 9
      have x10 : w3.cell? ⟨w.heap.size, 10, none⟩ = some (.slice (some ⟨g4, 0, none⟩) x.ring.length c4) := HG.out.box.cell 10
      have x17 : w3.cell? ⟨w.heap.size, 17, none⟩ = some (.int .i64 x.ops) := HG.out.box.cell 17
      have xf9 : w3.frozen? ⟨w.heap.size, 9, none⟩ = false := HG.out.box.frozen 9
      have xf17 : w3.frozen? ⟨w.heap.size, 17, none⟩ = false := HG.out.box.frozen 17
      have xl : w.heap.size < w3.heap.size := HG.out.lt
      have hg4b : g4 ≠ w.heap.size := fun e => HG.out.free (.slice (some ⟨g4, 0, none⟩) x.ring.length c4) (by simp [V7.list]) (congrArg some e)
      have hg4l : g4 < w3.heap.size := (HG.out.ws.g.lt g4 rfl).2
      have z4 : w3.cell? ⟨g4, p, none⟩ = some (.int .i64 (x.ring[p]'hp4)) := (HG.out.ws.g.cell p hp4).1
      have zf4 : w3.frozen? ⟨g4, p, none⟩ = false := HG.out.ws.g.froz s4 p
      have hp4I : (p : Int) < (x.ring.length : Int) := by omega
      have hp40 : (0 : Int) ≤ (p : Int) := by omega
      go_wp2_with fail
      go_still_tail 8, (by kernel_rfl)
      change wpList _ _ _ _ _ w3.drew
      have HD5 := hide HG.out.drew
      clear x2 x9 x10 x17 xf9 xf17 xl z4 zf4 hg4b hg4l hp4I hp40
      generalize w3.drew = wd at HD5 ⊢
      have x2 : wd.cell? ⟨w.heap.size, 2, none⟩ = some (.int .i64 x.window) := HD5.out.box.cell 2
      have x9 : wd.cell? ⟨w.heap.size, 9, none⟩ = some (.int .i64 x.keeper) := HD5.out.box.cell 9
      have x10 : wd.cell? ⟨w.heap.size, 10, none⟩ = some (.slice (some ⟨g4, 0, none⟩) x.ring.length c4) := HD5.out.box.cell 10
      have x17 : wd.cell? ⟨w.heap.size, 17, none⟩ = some (.int .i64 x.ops) := HD5.out.box.cell 17
      have xf9 : wd.frozen? ⟨w.heap.size, 9, none⟩ = false := HD5.out.box.frozen 9
      have xf17 : wd.frozen? ⟨w.heap.size, 17, none⟩ = false := HD5.out.box.frozen 17
      have xl : w.heap.size < wd.heap.size := HD5.out.lt
      have hg4b : g4 ≠ w.heap.size := fun e => HD5.out.free (.slice (some ⟨g4, 0, none⟩) x.ring.length c4) (by simp [V7.list]) (congrArg some e)
      have hg4l : g4 < wd.heap.size := (HD5.out.ws.g.lt g4 rfl).2
      have z4 : wd.cell? ⟨g4, p, none⟩ = some (.int .i64 (x.ring[p]'hp4)) := (HD5.out.ws.g.cell p hp4).1
      have zf4 : wd.frozen? ⟨g4, p, none⟩ = false := HD5.out.ws.g.froz s4 p
      have hp4I : (p : Int) < (x.ring.length : Int) := by omega
      have hp40 : (0 : Int) ≤ (p : Int) := by omega
      go_upto_region 28 with fail
      have HF := hide (show Wz w _ w.heap.size B _ (fun l => l.set 8 (.slice (some ⟨g3, 0, none⟩) 0 0)) { x with ring := x.ring.set p j, keeper := 1, ops := x.ops + 1 } _ from ((HD5.out.int_g rfl p hp4 j qw).set_keeper 1).set_ops (x.ops + 1))
      generalize hWW : World.setCell _ _ _ = W at HF ⊢
      clear hWW
      have HT := HF.out.ws.r.tail (show 0 < x.results.length from hq)
      obtain ⟨fq, hu, hq, hnz, hqb⟩ : ∃ fq, Ow W (.s 1 (x.results.drop 1).length ((x.results.drop 1).flatMap intC)) (.slice (some ⟨g3, 0, none⟩) 0 0) fq ∧ Lt fq W.heap.size ∧ w.heap.size + 1 ∉ fq ∧ ∀ q ∈ fq, B ≤ q := by
        rcases HT with ⟨_, hl1, ho⟩ | ⟨h1, _⟩
        · exact ⟨[], ho _ _ (by unfold maxLen; omega), Lt.nil _, by simp, by simp⟩
        · exact absurd rfl h1
      have HU := hide hu
      clear hu HT
      obtain ⟨vv, hvv⟩ : ∃ vv, Wz w W w.heap.size B [(w.heap.size + 1, 30, zeroCells)] (fun l => l.set 8 (.slice (some ⟨g3, 0, none⟩) 0 0)) ({ x with ring := x.ring.set p j, keeper := 1, ops := x.ops + 1 }) vv := ⟨_, HF.out⟩
      replace HF := hide hvv
      clear hvv
      have hzl := HF.out.row0.lt
      have hbl := HF.out.lt
      simp only at hzl
      obtain ⟨cs, hcs⟩ : ∃ cs, cs = (vv.cells ({ x with ring := x.ring.set p j, keeper := 1, ops := x.ops + 1 })).set 8 (.slice (some ⟨g3, 0, none⟩) 0 0) := ⟨_, rfl⟩
      have HBX := hide (show Row W (w.heap.size) 30 cs from by rw [hcs]; exact HF.out.box)
      have HON := hide (show cs.toArray.all (·.oneCell') = true from by rw [hcs]; exact HF.out.ws.one_set 8 rfl)
      have HSI := hide (show (Try.prog.info? 30).map (·.size) = some cs.toArray.size from by rw [hcs]; kernel_rfl)
      have HSL := hide (show zeroCells.toArray.size = cs.toArray.size from by rw [hcs]; rfl)
      have HCS := hide hcs
      clear hcs
      go_wp2_with (first | (refine wpList_load_row rfl 30 _ rfl (w.heap.size) rfl 30 cs.toArray (0, 0) _ HBX.out Try.underlying30 rfl HSI.out ?_) | (refine wpList_store_row rfl 30 _ _ rfl (w.heap.size + 1) cs.toArray rfl rfl 30 zeroCells.toArray HF.out.row0 HSI.out HSL.out HON.out ?_) | fail)
      refine bodyPost_ret (ret_row rfl _ _ (w.heap.size + 1) 30 cs (HF.out.row0.setRow' cs) _ rfl Try.underlying30 rfl (by simpa using HSI.out)) rfl ?_
      rw [HCS.out]
      exact HF.out.doneR HU.out hq hnz hqb HYO.out (by omega) HE.out
    · have hcI : ¬ ((c3 : Int) = 1) := by omega
      go_upto_region 11 with fail
      have HG := hide (show Wz w _ w.heap.size B _ (fun l => l.set 8 (.slice (some ⟨g3, 1, none⟩) (x.results.length - 1) (c3 - 1))) x _ from HW.out.put 8 (.slice (some ⟨g3, 1, none⟩) (x.results.length - 1) (c3 - 1)) (fun l => l.set 8 (.slice (some ⟨g3, 1, none⟩) (x.results.length - 1) (c3 - 1))) x rfl id)
      generalize hw3 : World.setCell _ _ _ = w3 at HG ⊢
      clear hw3 x2 x8 x9 x10 x11 x12 x15 x16 x17 xf8 xf9 xf11 xf12 xf15 xf17 xl
      have x2 : w3.cell? ⟨w.heap.size, 2, none⟩ = some (.int .i64 x.window) := HG.out.box.cell 2
      have x9 : w3.cell? ⟨w.heap.size, 9, none⟩ = some (.int .i64 x.keeper) := HG.out.box.cell 9
      have x10 : w3.cell? ⟨w.heap.size, 10, none⟩ = some (.slice (some ⟨g4, 0, none⟩) x.ring.length c4) := HG.out.box.cell 10
      have x17 : w3.cell? ⟨w.heap.size, 17, none⟩ = some (.int .i64 x.ops) := HG.out.box.cell 17
      have xf9 : w3.frozen? ⟨w.heap.size, 9, none⟩ = false := HG.out.box.frozen 9
      have xf17 : w3.frozen? ⟨w.heap.size, 17, none⟩ = false := HG.out.box.frozen 17
      have xl : w.heap.size < w3.heap.size := HG.out.lt
      have hg4b : g4 ≠ w.heap.size := fun e => HG.out.free (.slice (some ⟨g4, 0, none⟩) x.ring.length c4) (by simp [V7.list]) (congrArg some e)
      have hg4l : g4 < w3.heap.size := (HG.out.ws.g.lt g4 rfl).2
      have z4 : w3.cell? ⟨g4, p, none⟩ = some (.int .i64 (x.ring[p]'hp4)) := (HG.out.ws.g.cell p hp4).1
      have zf4 : w3.frozen? ⟨g4, p, none⟩ = false := HG.out.ws.g.froz s4 p
      have hp4I : (p : Int) < (x.ring.length : Int) := by omega
      have hp40 : (0 : Int) ≤ (p : Int) := by omega
      go_wp2_with fail
      go_still_tail 8, (by kernel_rfl)
      change wpList _ _ _ _ _ w3.drew
      have HD5 := hide HG.out.drew
      clear x2 x9 x10 x17 xf9 xf17 xl z4 zf4 hg4b hg4l hp4I hp40
      generalize w3.drew = wd at HD5 ⊢
      have x2 : wd.cell? ⟨w.heap.size, 2, none⟩ = some (.int .i64 x.window) := HD5.out.box.cell 2
      have x9 : wd.cell? ⟨w.heap.size, 9, none⟩ = some (.int .i64 x.keeper) := HD5.out.box.cell 9
      have x10 : wd.cell? ⟨w.heap.size, 10, none⟩ = some (.slice (some ⟨g4, 0, none⟩) x.ring.length c4) := HD5.out.box.cell 10
      have x17 : wd.cell? ⟨w.heap.size, 17, none⟩ = some (.int .i64 x.ops) := HD5.out.box.cell 17
      have xf9 : wd.frozen? ⟨w.heap.size, 9, none⟩ = false := HD5.out.box.frozen 9
      have xf17 : wd.frozen? ⟨w.heap.size, 17, none⟩ = false := HD5.out.box.frozen 17
      have xl : w.heap.size < wd.heap.size := HD5.out.lt
      have hg4b : g4 ≠ w.heap.size := fun e => HD5.out.free (.slice (some ⟨g4, 0, none⟩) x.ring.length c4) (by simp [V7.list]) (congrArg some e)
      have hg4l : g4 < wd.heap.size := (HD5.out.ws.g.lt g4 rfl).2
      have z4 : wd.cell? ⟨g4, p, none⟩ = some (.int .i64 (x.ring[p]'hp4)) := (HD5.out.ws.g.cell p hp4).1
      have zf4 : wd.frozen? ⟨g4, p, none⟩ = false := HD5.out.ws.g.froz s4 p
      have hp4I : (p : Int) < (x.ring.length : Int) := by omega
      have hp40 : (0 : Int) ≤ (p : Int) := by omega
      go_upto_region 28 with fail
      have HF := hide (show Wz w _ w.heap.size B _ (fun l => l.set 8 (.slice (some ⟨g3, 1, none⟩) (x.results.length - 1) (c3 - 1))) { x with ring := x.ring.set p j, keeper := 1, ops := x.ops + 1 } _ from ((HD5.out.int_g rfl p hp4 j qw).set_keeper 1).set_ops (x.ops + 1))
      generalize hWW : World.setCell _ _ _ = W at HF ⊢
      clear hWW
      have HT := HF.out.ws.r.tail (show 0 < x.results.length from hq)
      obtain ⟨fq, hu, hq, hnz, hqb⟩ : ∃ fq, Ow W (.s 1 (x.results.drop 1).length ((x.results.drop 1).flatMap intC)) (.slice (some ⟨g3, 1, none⟩) (x.results.length - 1) (c3 - 1)) fq ∧ Lt fq W.heap.size ∧ w.heap.size + 1 ∉ fq ∧ ∀ q ∈ fq, B ≤ q := by
        rcases HT with ⟨h1, _, _⟩ | ⟨_, fq, ho, hl, hz⟩
        · exact absurd h1 hc
        · exact ⟨fq, ho, hl, fun hm => hg3z (hz _ hm).symm, fun q hm => by rw [hz q hm]; exact b3⟩
      have HU := hide hu
      clear hu HT
      obtain ⟨vv, hvv⟩ : ∃ vv, Wz w W w.heap.size B [(w.heap.size + 1, 30, zeroCells)] (fun l => l.set 8 (.slice (some ⟨g3, 1, none⟩) (x.results.length - 1) (c3 - 1))) ({ x with ring := x.ring.set p j, keeper := 1, ops := x.ops + 1 }) vv := ⟨_, HF.out⟩
      replace HF := hide hvv
      clear hvv
      have hzl := HF.out.row0.lt
      have hbl := HF.out.lt
      simp only at hzl
      obtain ⟨cs, hcs⟩ : ∃ cs, cs = (vv.cells ({ x with ring := x.ring.set p j, keeper := 1, ops := x.ops + 1 })).set 8 (.slice (some ⟨g3, 1, none⟩) (x.results.length - 1) (c3 - 1)) := ⟨_, rfl⟩
      have HBX := hide (show Row W (w.heap.size) 30 cs from by rw [hcs]; exact HF.out.box)
      have HON := hide (show cs.toArray.all (·.oneCell') = true from by rw [hcs]; exact HF.out.ws.one_set 8 rfl)
      have HSI := hide (show (Try.prog.info? 30).map (·.size) = some cs.toArray.size from by rw [hcs]; kernel_rfl)
      have HSL := hide (show zeroCells.toArray.size = cs.toArray.size from by rw [hcs]; rfl)
      have HCS := hide hcs
      clear hcs
      go_wp2_with (first | (refine wpList_load_row rfl 30 _ rfl (w.heap.size) rfl 30 cs.toArray (0, 0) _ HBX.out Try.underlying30 rfl HSI.out ?_) | (refine wpList_store_row rfl 30 _ _ rfl (w.heap.size + 1) cs.toArray rfl rfl 30 zeroCells.toArray HF.out.row0 HSI.out HSL.out HON.out ?_) | fail)
      refine bodyPost_ret (ret_row rfl _ _ (w.heap.size + 1) 30 cs (HF.out.row0.setRow' cs) _ rfl Try.underlying30 rfl (by simpa using HSI.out)) rfl ?_
      rw [HCS.out]
      exact HF.out.doneR HU.out hq hnz hqb HYO.out (by omega) HE.out
  have r0 : (x.keeper == 0) = false := beqf h0
  by_cases h1 : x.keeper = 1
  · have r1 : (x.keeper == 1) = true := beqt h1
    go_upto_region 16 with fail
    have HG := hide (HW.out.set_keeper 0)
    generalize hw3 : World.setCell _ _ _ = w3 at HG ⊢
    have HX3 := hide (show Row w3 w.heap.size 30 ((⟨.slice A1 x.queue.length c1, .slice (some ⟨g2, 0, none⟩) x.hands.length c2, .slice A3 x.results.length c3, .slice (some ⟨g4, 0, none⟩) x.ring.length c4, .slice A5 x.out.length c5, .slice A6 x.got.length c6, .slice (some ⟨g7, 0, none⟩) x.shut.length c7⟩ : V7).cells { x with keeper := 0 }) from HG.out.box)
    obtain ⟨fp, ho, hl⟩ := HG.out.ws.owc (wf_keeper (ok_wf HOK.out) 0 (by decide))
    have HD := hide (show Calls Try.prog 114 #[.agg ((⟨.slice A1 x.queue.length c1, .slice (some ⟨g2, 0, none⟩) x.hands.length c2, .slice A3 x.results.length c3, .slice (some ⟨g4, 0, none⟩) x.ring.length c4, .slice A5 x.out.length c5, .slice A6 x.got.length c6, .slice (some ⟨g7, 0, none⟩) x.shut.length c7⟩ : V7).cells { x with keeper := 0 }).toArray] w3 (fun e w' => e = .returned (.bool (tb x.dueIn)) ∧ Below w3.heap.size w3 w') from l51Due_any { x with keeper := 0 } _ fp w3 ho hl (form_keeper HOK.out.form 0 (by omega)))
    clear hw3 ho hl x2 x8 x9 x10 x11 x12 x15 x16 x17 xf8 xf9 xf11 xf12 xf15 xf17 xl
    have HGB := hide (fun W (hb : Below w3.heap.size w3 W) => HG.out.below hb)
    have xl : w.heap.size < w3.heap.size := HG.out.lt
    by_cases hd : x.dueIn
    · have HE := hide (show x.doKeeper (k : Int) = x.k12 from by unfold CrewWorld.doKeeper; rw [if_neg hp2, if_neg hp, if_neg h0, if_pos h1, if_pos hd])
      rw [tb_true hd] at HD
      clear h1 h0 hp2 hp hd
      go_upto_region 28 with (first | (refine wpList_load_row rfl 30 _ rfl (w.heap.size) rfl 30 ((⟨.slice A1 x.queue.length c1, .slice (some ⟨g2, 0, none⟩) x.hands.length c2, .slice A3 x.results.length c3, .slice (some ⟨g4, 0, none⟩) x.ring.length c4, .slice A5 x.out.length c5, .slice A6 x.got.length c6, .slice (some ⟨g7, 0, none⟩) x.shut.length c7⟩ : V7).cells { x with keeper := 0 }).toArray (0, 0) _ HX3.out Try.underlying30 rfl (by kernel_rfl) ?_) | (go_at_call 114; refine HD.out.mono ?_; rintro e w4 ⟨rfl, hb4⟩; have HG4 := hide (HGB.out w4 hb4); have y9 : w4.cell? ⟨w.heap.size, 9, none⟩ = some (.int .i64 0) := HG4.out.box.cell 9; have yf9 : w4.frozen? ⟨w.heap.size, 9, none⟩ = false := HG4.out.box.frozen 9; have yl : w.heap.size < w4.heap.size := HG4.out.lt) | fail)
      have HF := hide (show Wz w _ w.heap.size B _ id (x.k12) _ from HG4.out.set_keeper 2)
      generalize hWW : World.setCell _ _ _ = W at HF ⊢
      clear hWW
      obtain ⟨vv, hvv⟩ : ∃ vv, Wz w W w.heap.size B [(w.heap.size + 1, 30, zeroCells)] id (x.k12) vv := ⟨_, HF.out⟩
      replace HF := hide hvv
      clear hvv
      have hzl := HF.out.row0.lt
      have hbl := HF.out.lt
      simp only at hzl
      go_wp2_with (first | (refine wpList_load_row rfl 30 _ rfl (w.heap.size) rfl 30 (vv.cells (x.k12)).toArray (0, 0) _ HF.out.box Try.underlying30 rfl (by kernel_rfl) ?_) | (refine wpList_store_row rfl 30 _ _ rfl (w.heap.size + 1) (vv.cells (x.k12)).toArray rfl rfl 30 zeroCells.toArray HF.out.row0 (by kernel_rfl) rfl HF.out.ws.one ?_) | fail)
      refine bodyPost_ret (ret_row rfl _ _ (w.heap.size + 1) 30 (vv.cells (x.k12)) (HF.out.row0.setRow' (vv.cells (x.k12))) _ rfl Try.underlying30 rfl (by kernel_rfl)) rfl ?_
      exact HF.out.done HYO.out (by omega) HE.out
    · have HE := hide (show x.doKeeper (k : Int) = x.k10 from by unfold CrewWorld.doKeeper; rw [if_neg hp2, if_neg hp, if_neg h0, if_pos h1, if_neg hd])
      rw [tb_false hd] at HD
      clear h1 h0 hp2 hp hd
      go_upto_region 28 with (first | (refine wpList_load_row rfl 30 _ rfl (w.heap.size) rfl 30 ((⟨.slice A1 x.queue.length c1, .slice (some ⟨g2, 0, none⟩) x.hands.length c2, .slice A3 x.results.length c3, .slice (some ⟨g4, 0, none⟩) x.ring.length c4, .slice A5 x.out.length c5, .slice A6 x.got.length c6, .slice (some ⟨g7, 0, none⟩) x.shut.length c7⟩ : V7).cells { x with keeper := 0 }).toArray (0, 0) _ HX3.out Try.underlying30 rfl (by kernel_rfl) ?_) | (go_at_call 114; refine HD.out.mono ?_; rintro e W ⟨rfl, hb4⟩; have HG4 := hide (HGB.out W hb4)) | fail)
      have HF := hide (show Wz w W w.heap.size B _ id (x.k10) _ from HG4.out)
      obtain ⟨vv, hvv⟩ : ∃ vv, Wz w W w.heap.size B [(w.heap.size + 1, 30, zeroCells)] id (x.k10) vv := ⟨_, HF.out⟩
      replace HF := hide hvv
      clear hvv
      have hzl := HF.out.row0.lt
      have hbl := HF.out.lt
      simp only at hzl
      go_wp2_with (first | (refine wpList_load_row rfl 30 _ rfl (w.heap.size) rfl 30 (vv.cells (x.k10)).toArray (0, 0) _ HF.out.box Try.underlying30 rfl (by kernel_rfl) ?_) | (refine wpList_store_row rfl 30 _ _ rfl (w.heap.size + 1) (vv.cells (x.k10)).toArray rfl rfl 30 zeroCells.toArray HF.out.row0 (by kernel_rfl) rfl HF.out.ws.one ?_) | fail)
      refine bodyPost_ret (ret_row rfl _ _ (w.heap.size + 1) 30 (vv.cells (x.k10)) (HF.out.row0.setRow' (vv.cells (x.k10))) _ rfl Try.underlying30 rfl (by kernel_rfl)) rfl ?_
      exact HF.out.done HYO.out (by omega) HE.out
  have r1 : (x.keeper == 1) = false := beqf h1
  by_cases h2 : x.keeper = 2
  · have r2 : (x.keeper == 2) = true := beqt h2
    have HE := hide (show x.doKeeper (k : Int) = x.k23 from by unfold CrewWorld.doKeeper; rw [if_neg hp2, if_neg hp, if_neg h0, if_neg h1, if_pos h2])
    clear h2 h1 h0 hp2 hp
    obtain ⟨p, hp4, hrem, hpe, hw0⟩ := slot_at HOK.out k4n.1
    have hE : x.k23 = { x with ring := x.ring.set p (-1), out := x.out ++ [x.due], due := x.due + 1, keeper := 3, ops := x.ops + 1 } := by unfold CrewWorld.k23; rw [← hpe]
    rw [hE] at HE
    clear hE hpe
    go_upto_region 19 with fail
    have hg4b : g4 ≠ w.heap.size := fun e => HW.out.free (.slice (some ⟨g4, 0, none⟩) x.ring.length c4) (by simp [V7.list]) (congrArg some e)
    have hg4l : g4 < w1.heap.size := (HW.out.ws.g.lt g4 rfl).2
    have z4 : w1.cell? ⟨g4, p, none⟩ = some (.int .i64 (x.ring[p]'hp4)) := (HW.out.ws.g.cell p hp4).1
    have zf4 : w1.frozen? ⟨g4, p, none⟩ = false := HW.out.ws.g.froz s4 p
    have hp4I : (p : Int) < (x.ring.length : Int) := by omega
    have hp40 : (0 : Int) ≤ (p : Int) := by omega
    go_wp2_with fail
    go_still_tail 8, (by kernel_rfl)
    change wpList _ _ _ _ _ w1.drew
    have HD5 := hide HW.out.drew
    clear x2 x8 x9 x10 x11 x12 x15 x16 x17 xf8 xf9 xf11 xf12 xf15 xf17 xl z7_0 zf7_0 z4 zf4 hg4b hg4l hp4I hp40
    generalize w1.drew = wd at HD5 ⊢
    have x2 : wd.cell? ⟨w.heap.size, 2, none⟩ = some (.int .i64 x.window) := HD5.out.box.cell 2
    have x9 : wd.cell? ⟨w.heap.size, 9, none⟩ = some (.int .i64 x.keeper) := HD5.out.box.cell 9
    have x10 : wd.cell? ⟨w.heap.size, 10, none⟩ = some (.slice (some ⟨g4, 0, none⟩) x.ring.length c4) := HD5.out.box.cell 10
    have x11 : wd.cell? ⟨w.heap.size, 11, none⟩ = some (.int .i64 x.due) := HD5.out.box.cell 11
    have x12 : wd.cell? ⟨w.heap.size, 12, none⟩ = some (.slice A5 x.out.length c5) := HD5.out.box.cell 12
    have x17 : wd.cell? ⟨w.heap.size, 17, none⟩ = some (.int .i64 x.ops) := HD5.out.box.cell 17
    have xf9 : wd.frozen? ⟨w.heap.size, 9, none⟩ = false := HD5.out.box.frozen 9
    have xf11 : wd.frozen? ⟨w.heap.size, 11, none⟩ = false := HD5.out.box.frozen 11
    have xf12 : wd.frozen? ⟨w.heap.size, 12, none⟩ = false := HD5.out.box.frozen 12
    have xf17 : wd.frozen? ⟨w.heap.size, 17, none⟩ = false := HD5.out.box.frozen 17
    have xl : w.heap.size < wd.heap.size := HD5.out.lt
    have hg4b : g4 ≠ w.heap.size := fun e => HD5.out.free (.slice (some ⟨g4, 0, none⟩) x.ring.length c4) (by simp [V7.list]) (congrArg some e)
    have hg4l : g4 < wd.heap.size := (HD5.out.ws.g.lt g4 rfl).2
    have z4 : wd.cell? ⟨g4, p, none⟩ = some (.int .i64 (x.ring[p]'hp4)) := (HD5.out.ws.g.cell p hp4).1
    have zf4 : wd.frozen? ⟨g4, p, none⟩ = false := HD5.out.ws.g.froz s4 p
    have hp4I : (p : Int) < (x.ring.length : Int) := by omega
    have hp40 : (0 : Int) ≤ (p : Int) := by omega
    go_upto_region 20 with fail
    have HG := hide (HD5.out.int_g rfl p hp4 (-1) (by decide))
    generalize hw3 : World.setCell _ _ _ = w3 at HG ⊢
    clear hw3 z4 zf4 x2 x9 x10 x11 x12 x17 xf9 xf11 xf12 xf17 xl
    have x9 : w3.cell? ⟨w.heap.size, 9, none⟩ = some (.int .i64 x.keeper) := HG.out.box.cell 9
    have x11 : w3.cell? ⟨w.heap.size, 11, none⟩ = some (.int .i64 x.due) := HG.out.box.cell 11
    have x12 : w3.cell? ⟨w.heap.size, 12, none⟩ = some (.slice A5 x.out.length c5) := HG.out.box.cell 12
    have x17 : w3.cell? ⟨w.heap.size, 17, none⟩ = some (.int .i64 x.ops) := HG.out.box.cell 17
    have xf9 : w3.frozen? ⟨w.heap.size, 9, none⟩ = false := HG.out.box.frozen 9
    have xf11 : w3.frozen? ⟨w.heap.size, 11, none⟩ = false := HG.out.box.frozen 11
    have xf12 : w3.frozen? ⟨w.heap.size, 12, none⟩ = false := HG.out.box.frozen 12
    have xf17 : w3.frozen? ⟨w.heap.size, 17, none⟩ = false := HG.out.box.frozen 17
    have xl : w.heap.size < w3.heap.size := HG.out.lt
    have HWA := hide (HG.out.alloc (.cells #[.int .i64 x.due] 3))
    obtain ⟨uo_, huo_⟩ := HWA.out.ws.o
    have HQo := hide huo_
    clear huo_
    go_upto_region 28 with (first | (at_builtin; refine wpl_app rfl _ _ 22 rfl ib _ 8 Try.underlying22 HIb.out jb0 jb1 jb2 rfl (by decide) intC_len rfl HQo.out [x.due] (int_srcP (WalkArith.wf_i64 (by omega)) _) (by exact New.nil _ _) (fun q _ hq => by cases hq) _ _ _ rfl rfl (SrcAt.new w3 _ _ _ _) (by first | omega | (simp only [List.length_append, List.length_cons, List.length_nil]; omega)) (by decide) HWA.out.sz ?_; intro w5A w5n w5c w5 hn5 hown5 hgb5; have HP5 := hide (HWA.out.app_o hgb5 hown5); have hr5 := hgb5.row HWA.out.box (HWA.out.free (.slice A5 x.out.length c5) (by simp [V7.list])); have w5x9 : w5.cell? ⟨w.heap.size, 9, none⟩ = some (.int .i64 x.keeper) := hr5.cell 9; have w5x11 : w5.cell? ⟨w.heap.size, 11, none⟩ = some (.int .i64 x.due) := hr5.cell 11; have w5x12 : w5.cell? ⟨w.heap.size, 12, none⟩ = some (.slice A5 x.out.length c5) := hr5.cell 12; have w5x17 : w5.cell? ⟨w.heap.size, 17, none⟩ = some (.int .i64 x.ops) := hr5.cell 17; have w5y9 := hr5.frozen 9; have w5y11 := hr5.frozen 11; have w5y12 := hr5.frozen 12; have w5y17 := hr5.frozen 17; have w5l := hr5.lt; clear hown5 hgb5 hn5 hr5) | fail)
    have HF := hide (show Wz w _ w.heap.size B _ id ({ x with ring := x.ring.set p (-1), out := x.out ++ [x.due], due := x.due + 1, keeper := 3, ops := x.ops + 1 }) _ from ((HP5.out.set_due (x.due + 1)).set_keeper 3).set_ops (x.ops + 1))
    generalize hWW : World.setCell _ _ _ = W at HF ⊢
    clear hWW
    obtain ⟨vv, hvv⟩ : ∃ vv, Wz w W w.heap.size B [(w.heap.size + 1, 30, zeroCells)] id ({ x with ring := x.ring.set p (-1), out := x.out ++ [x.due], due := x.due + 1, keeper := 3, ops := x.ops + 1 }) vv := ⟨_, HF.out⟩
    replace HF := hide hvv
    clear hvv
    have hzl := HF.out.row0.lt
    have hbl := HF.out.lt
    simp only at hzl
    go_wp2_with (first | (refine wpList_load_row rfl 30 _ rfl (w.heap.size) rfl 30 (vv.cells ({ x with ring := x.ring.set p (-1), out := x.out ++ [x.due], due := x.due + 1, keeper := 3, ops := x.ops + 1 })).toArray (0, 0) _ HF.out.box Try.underlying30 rfl (by kernel_rfl) ?_) | (refine wpList_store_row rfl 30 _ _ rfl (w.heap.size + 1) (vv.cells ({ x with ring := x.ring.set p (-1), out := x.out ++ [x.due], due := x.due + 1, keeper := 3, ops := x.ops + 1 })).toArray rfl rfl 30 zeroCells.toArray HF.out.row0 (by kernel_rfl) rfl HF.out.ws.one ?_) | fail)
    refine bodyPost_ret (ret_row rfl _ _ (w.heap.size + 1) 30 (vv.cells ({ x with ring := x.ring.set p (-1), out := x.out ++ [x.due], due := x.due + 1, keeper := 3, ops := x.ops + 1 })) (HF.out.row0.setRow' (vv.cells ({ x with ring := x.ring.set p (-1), out := x.out ++ [x.due], due := x.due + 1, keeper := 3, ops := x.ops + 1 }))) _ rfl Try.underlying30 rfl (by kernel_rfl)) rfl ?_
    exact HF.out.done HYO.out (by omega) HE.out
  have r2 : (x.keeper == 2) = false := beqf h2
  by_cases h3 : x.keeper = 3
  · have r3 : (x.keeper == 3) = true := beqt h3
    have HE := hide (show x.doKeeper (k : Int) = x.k31 from by unfold CrewWorld.doKeeper; rw [if_neg hp2, if_neg hp, if_neg h0, if_neg h1, if_neg h2, if_pos h3])
    clear h3 h2 h1 h0 hp2 hp
    go_upto_region 28 with fail
    have HF := hide (show Wz w _ w.heap.size B _ id (x.k31) _ from ((HW.out.set_room (x.room + 1)).set_keeper 1).set_ops (x.ops + 1))
    generalize hWW : World.setCell _ _ _ = W at HF ⊢
    clear hWW
    obtain ⟨vv, hvv⟩ : ∃ vv, Wz w W w.heap.size B [(w.heap.size + 1, 30, zeroCells)] id (x.k31) vv := ⟨_, HF.out⟩
    replace HF := hide hvv
    clear hvv
    have hzl := HF.out.row0.lt
    have hbl := HF.out.lt
    simp only at hzl
    go_wp2_with (first | (refine wpList_load_row rfl 30 _ rfl (w.heap.size) rfl 30 (vv.cells (x.k31)).toArray (0, 0) _ HF.out.box Try.underlying30 rfl (by kernel_rfl) ?_) | (refine wpList_store_row rfl 30 _ _ rfl (w.heap.size + 1) (vv.cells (x.k31)).toArray rfl rfl 30 zeroCells.toArray HF.out.row0 (by kernel_rfl) rfl HF.out.ws.one ?_) | fail)
    refine bodyPost_ret (ret_row rfl _ _ (w.heap.size + 1) 30 (vv.cells (x.k31)) (HF.out.row0.setRow' (vv.cells (x.k31))) _ rfl Try.underlying30 rfl (by kernel_rfl)) rfl ?_
    exact HF.out.done HYO.out (by omega) HE.out
  have r3 : (x.keeper == 3) = false := beqf h3
  have HE := hide (show x.doKeeper (k : Int) = x.k5 from by unfold CrewWorld.doKeeper; rw [if_neg hp2, if_neg hp, if_neg h0, if_neg h1, if_neg h2, if_neg h3])
  clear h3 h2 h1 h0 hp2 hp
  go_upto_region 28 with fail
  have HF := hide (show Wz w _ w.heap.size B _ id (x.k5) _ from ((HW.out.set_keeper 5).int_s rfl 2 (by show 2 < x.shut.length; omega) 1 (by decide)).set_ops (x.ops + 1))
  generalize hWW : World.setCell _ _ _ = W at HF ⊢
  clear hWW
  obtain ⟨vv, hvv⟩ : ∃ vv, Wz w W w.heap.size B [(w.heap.size + 1, 30, zeroCells)] id (x.k5) vv := ⟨_, HF.out⟩
  replace HF := hide hvv
  clear hvv
  have hzl := HF.out.row0.lt
  have hbl := HF.out.lt
  simp only at hzl
  go_wp2_with (first | (refine wpList_load_row rfl 30 _ rfl (w.heap.size) rfl 30 (vv.cells (x.k5)).toArray (0, 0) _ HF.out.box Try.underlying30 rfl (by kernel_rfl) ?_) | (refine wpList_store_row rfl 30 _ _ rfl (w.heap.size + 1) (vv.cells (x.k5)).toArray rfl rfl 30 zeroCells.toArray HF.out.row0 (by kernel_rfl) rfl HF.out.ws.one ?_) | fail)
  refine bodyPost_ret (ret_row rfl _ _ (w.heap.size + 1) 30 (vv.cells (x.k5)) (HF.out.row0.setRow' (vv.cells (x.k5))) _ rfl Try.underlying30 rfl (by kernel_rfl)) rfl ?_
  exact HF.out.done HYO.out (by omega) HE.out
end Go.Proofs.Ytpkjjfnfolbcoaa
