/-
  The user stops; which move is picked: the reference. A step of a crew: the reference. The play of a crew: what the loop keeps: the reference.
-/
import Derived.Test.YtpkjjfnfolbcoaaQRead
import Derived.Test.YtpkjjfnfolbcoaaQCrewW7
import Derived.Test.YtpkjjfnfolbcoaaQPlayS4
import Derived.Test.YtpkjjfnfolbcoaaQPlayL
import Derived.Test.YtpkjjfnfolbcoaaQWaysV
import Derived.Test.YtpkjjfnfolbcoaaQPlayS7
import Derived.Test.YtpkjjfnfolbcoaaQToldTo
import Derived.Test.YtpkjjfnfolbcoaaQCrewSerial
import Derived.Test.YtpkjjfnfolbcoaaQMovesS
set_option linter.unusedVariables false
set_option linter.unusedSimpArgs false
namespace Go.Proofs.Ytpkjjfnfolbcoaa
open Go.ChangeShapes Go.WideShapes Go.ChangeAt Go.RowKit

theorem rowFar' {w : World} {g b : Nat} {e : TypeId} {cs : List Value} (h : Row w g e cs) (hn : g ≠ b) (vs : Array Value) : Row (w.setRow b vs) g e cs := (setRow_other w b g vs hn).trans h
/-- a world of the call's own, stored into the box -/
theorem Wz.start3 {w0 W : World} {b B C : Nat} {R : List (Nat × TypeId × List Value)} {x : CrewWorld} {v : V7} {old : List Value} (hr : Row W b 30 old) (hs : Ws W C x v) (hbC : b < C) (hBC : B ≤ C) (hrows : ∀ r ∈ R, Row W r.1 r.2.1 r.2.2 ∧ r.1 < C ∧ r.1 ≠ b) (hf : Below B w0 W) (hb : B ≤ b) (hsz : B ≤ W.heap.size) : Wz w0 (W.setRow b (v.cells x).toArray) b B R id x v := by
  have hg := setRow_grown (grown_refl W (some b)) (v.cells x).toArray
  refine ⟨hr.setRow' _, (hs.kept hg (hs.freeOld hbC)).mono hBC, hs.freeOld hbC, fun r hm => ?_, hf.trans (below_of_grown hg hb hsz), hb, Nat.le_trans hsz hg.size⟩
  obtain ⟨h1, h2, h3⟩ := hrows r hm
  exact ⟨rowFar' h1 h3 _, hs.freeOld h2, h3⟩
def CancelOut (x : CrewWorld) (w : World) (e : Ending) (w' : World) : Prop :=
  ∃ us, e = .returned (.tuple #[.agg us.toArray, .bool (x.user == 0)]) ∧ us.toArray.size = 18 ∧ us.toArray.all (·.oneCell') = true ∧ Below w.heap.size w w' ∧ (x.user = 0 → ∃ fp, OwC w' x.cut.cells us fp ∧ Lt fp w'.heap.size ∧ ∀ g ∈ fp, w.heap.size ≤ g)
set_option maxRecDepth 100000 in
set_option maxHeartbeats 4000000 in
theorem specCrewCancel_any (x : CrewWorld) (us : List Value) (fp : List Nat) (w : World) (ho : OwC w x.cells us fp) (hf : Lt fp w.heap.size) (hok : x.ok) : Calls Try.prog 73 #[.agg us.toArray] w (CancelOut x w) := by
  have HOK := hide hok
  have hus := hok.form.user
  obtain ⟨k1, k2, k3, k4, k5, k6, k7⟩ := ok_lens hok
  obtain ⟨k0n, k1n, k2n, k3n, k4n, k5n, k6n⟩ := ok_nums hok
  obtain ⟨s2, s4, s7, -, -⟩ := ok_some hok
  have HO := hide ho
  have HL := hide (ho.length.trans (CrewWorld.cells_len x))
  have HU18 := hide (show us.toArray.size = 18 from by simpa using HL.out)
  have u13 : us[13]? = some (.int .i64 x.user) := by
    obtain ⟨A1, c1, A2, c2, A3, c3, A4, c4, A5, c5, A6, c6, A7, c7, f1, f2, f3, f4, f5, f6, f7, rfl, wjobs, wworkers, wwindow, wnext, wreader, o1, o2, wcloser, o3, wkeeper, o4, wdue, o5, wuser, o6, wroom, o7, wops, rfl⟩ := ho.oCrewWorld
    rfl
  have HU13 := hide u13
  clear ho u13
  go_enter Try.func73, Try.ntmps73
  go_upto_region 1 with fail
  generalize hw1 : (w.alloc _).alloc _ = w1
  have hb1 : Below w.heap.size w w1 := by rw [← hw1]; exact ((Below.refl _ _).alloc (Nat.le_refl _) _).alloc (by rw [World.size_alloc]; omega) _
  have HBX := hide (show Row w1 w.heap.size 30 us from by rw [← hw1]; exact (Row.new w _ _).alloc _)
  have HZ := hide (show Row w1 (w.heap.size + 1) 30 zeroCells from by
    rw [← hw1]
    have h := Row.new (w.alloc (.cells us.toArray 30)) 30 zeroCells
    rw [World.size_alloc] at h
    exact h)
  have HOK1 := hide (specCrewOk_any x us fp w1 (HO.out.below hb1 hf) (hf.up hb1) (by omega))
  rw [tb_true hok] at HOK1
  have HB1 := hide hb1
  have HW1 := hide (HO.out.below hb1 hf)
  have HF1 := hide (hf.up hb1)
  have HIN := hide (show (Try.prog.info? 30).map (·.size) = some us.toArray.size from by
    rw [show us.toArray.size = 18 from by simpa using HL.out]
    exact info_crew)
  have HSB := hide (fun (W : World) (hb : Below w1.heap.size w1 W) => show W.cell? ⟨w.heap.size, 13, none⟩ = some (.int .i64 x.user) ∧ Row W w.heap.size 30 us ∧ Row W (w.heap.size + 1) 30 zeroCells from by
    have h := HBX.out.below hb HBX.out.lt
    exact ⟨(h.cell 13).trans HU13.out, h, HZ.out.below hb HZ.out.lt⟩)
  clear hw1 hb1 hf HU13
  have xl := HBX.out.lt
  have xz := HZ.out.lt
  by_cases hu : x.user = 0
  · have u1 : (x.user == 1) = false := beqf (by omega)
    go_upto_region 3 with (first | (refine wpList_load_row rfl 30 _ rfl w.heap.size rfl 30 us.toArray (0, 0) _ HBX.out Try.underlying30 rfl HIN.out ?_) | (go_at_call 13; refine HOK1.out.mono ?_; rintro e w2 ⟨rfl, hb2⟩; obtain ⟨y13, hy, hyz⟩ := HSB.out w2 hb2; have HY := hide hy; have HYZ := hide hyz; have yl := hy.lt; have HB2 := hide hb2; clear hy hyz hb2) | fail)
    have hbb : Below w.heap.size w w2 := HB1.out.trans (HB2.out.mono HB1.out.size)
    have HBB := hide hbb
    have HCP := hide (l52Copy_any x us fp w2 (HW1.out.below HB2.out HF1.out) (HF1.out.up HB2.out) HOK.out)
    have HYB := hide (fun (W : World) (hb : Below w2.heap.size w2 W) => show Row W w.heap.size 30 us ∧ Row W (w.heap.size + 1) 30 zeroCells from ⟨HY.out.below hb HY.out.lt, HYZ.out.below hb HYZ.out.lt⟩)
    have yz := HYZ.out.lt
    clear hbb
    go_upto_region 4 with (first | (refine wpList_load_row rfl 30 _ rfl w.heap.size rfl 30 us.toArray (0, 0) _ HY.out Try.underlying30 rfl HIN.out ?_) | (go_at_call 125; refine HCP.out.mono ?_; rintro e w3 ⟨v, rfl, hws, hb3⟩; have HR3 := hide (HYB.out w3 hb3).1; have HZ3 := hide (HYB.out w3 hb3).2; have HWS := hide hws; have HB3 := hide hb3; have HONE := hide hws.one; clear hws hb3) | (refine wpList_store_row rfl 30 _ _ rfl w.heap.size (v.cells x).toArray rfl rfl 30 us.toArray HR3.out (by kernel_rfl) HU18.out HONE.out ?_) | fail)
    have hz3 := HZ3.out.lt
    have HW := hide (show Wz w (w3.setRow w.heap.size (v.cells x).toArray) w.heap.size w.heap.size [(w.heap.size + 1, 30, zeroCells)] id x v from Wz.start3 (C := w2.heap.size) HR3.out HWS.out yl (by omega) (fun r hr => by
      simp only [List.mem_singleton] at hr
      subst hr
      exact ⟨HZ3.out, yz, by show w.heap.size + 1 ≠ w.heap.size; omega⟩) (HBB.out.trans (HB3.out.mono HBB.out.size)) (Nat.le_refl _) (by omega))
    generalize hw4 : World.setRow _ _ _ = w4 at HW ⊢
    clear hw4 HR3 HZ3 HWS HB3 HONE HYB HY HYZ HBB HB2 HCP y13 yl yz xl xz hz3 HSB
    obtain ⟨vq, vh, vr, vg, vo, vt, vs⟩ := v
    obtain ⟨A1, c1, e1⟩ := HW.out.ws.q.form
    change vq = _ at e1
    subst e1
    obtain ⟨g2, c2, e2, b2, l2, -⟩ := HW.out.ws.h.at0 (by show 0 < x.hands.length; omega)
    change vh = _ at e2
    subst e2
    obtain ⟨A3, c3, e3⟩ := HW.out.ws.r.form
    change vr = _ at e3
    subst e3
    obtain ⟨g4, c4, e4, b4, l4, -⟩ := HW.out.ws.g.at0 (by show 0 < x.ring.length; omega)
    change vg = _ at e4
    subst e4
    obtain ⟨A5, c5, e5⟩ := HW.out.ws.o.form
    change vo = _ at e5
    subst e5
    obtain ⟨A6, c6, e6⟩ := HW.out.ws.t.form
    change vt = _ at e6
    subst e6
    obtain ⟨g7, c7, e7, b7, l7, -⟩ := HW.out.ws.s.at0 (by show 0 < x.shut.length; omega)
    change vs = _ at e7
    subst e7
    have x13 : w4.cell? ⟨w.heap.size, 13, none⟩ = some (.int .i64 x.user) := HW.out.box.cell 13
    have x16 : w4.cell? ⟨w.heap.size, 16, none⟩ = some (.slice (some ⟨g7, 0, none⟩) x.shut.length c7) := HW.out.box.cell 16
    have x17 : w4.cell? ⟨w.heap.size, 17, none⟩ = some (.int .i64 x.ops) := HW.out.box.cell 17
    have xf13 : w4.frozen? ⟨w.heap.size, 13, none⟩ = false := HW.out.box.frozen 13
    have xf17 : w4.frozen? ⟨w.heap.size, 17, none⟩ = false := HW.out.box.frozen 17
    have xl : w.heap.size < w4.heap.size := HW.out.lt
    have hg7b : g7 ≠ w.heap.size := fun e => HW.out.free (.slice (some ⟨g7, 0, none⟩) x.shut.length c7) (by simp [V7.list]) (congrArg some e)
    have hg7l : g7 < w4.heap.size := (HW.out.ws.s.lt g7 rfl).2
    have z7_0 : w4.cell? ⟨g7, 3, none⟩ = some (.int .i64 (x.shut[3]'(by omega))) := (HW.out.ws.s.cell 3 (by omega)).1
    have zf7_0 : w4.frozen? ⟨g7, 3, none⟩ = false := HW.out.ws.s.froz (by omega) 3
    obtain ⟨wv0, wu0⟩ := wk (x.ops + 1) (by omega) (by omega)
    go_upto_region 7 with fail
    have HF := hide (show Wz w _ w.heap.size w.heap.size [(w.heap.size + 1, 30, zeroCells)] id x.cut _ from ((HW.out.set_user 1).int_s rfl 3 (by show 3 < x.shut.length; omega) 1 (by decide)).set_ops (x.ops + 1))
    generalize hWW : World.setCell _ _ _ = W at HF ⊢
    clear hWW
    obtain ⟨vv, hvv⟩ : ∃ vv, Wz w W w.heap.size w.heap.size [(w.heap.size + 1, 30, zeroCells)] id (x.cut) vv := ⟨_, HF.out⟩
    replace HF := hide hvv
    clear hvv
    have hzl := HF.out.row0.lt
    have hbl := HF.out.lt
    simp only at hzl
    go_wp2_with (first | (refine wpList_load_row rfl 30 _ rfl (w.heap.size) rfl 30 (vv.cells (x.cut)).toArray (0, 0) _ HF.out.box Try.underlying30 rfl (by kernel_rfl) ?_) | (refine wpList_store_row rfl 30 _ _ rfl (w.heap.size + 1) (vv.cells (x.cut)).toArray rfl rfl 30 zeroCells.toArray HF.out.row0 (by kernel_rfl) rfl HF.out.ws.one ?_) | fail)
    refine bodyPost_ret (ret_row_tmp rfl _ _ (w.heap.size + 1) 30 (vv.cells (x.cut)) (HF.out.row0.setRow' (vv.cells (x.cut))) _ (.bool true) rfl rfl Try.underlying30 rfl (by kernel_rfl)) rfl ?_
    have u0 : (x.user == 0) = true := beqt hu
    have hg := setRow_grown (grown_refl W (some (w.heap.size + 1))) (vv.cells x.cut).toArray
    refine ⟨vv.cells x.cut, by rw [u0], rfl, HF.out.ws.one, HF.out.fr.trans (below_of_grown hg (by omega) HF.out.sz), fun _ => ?_⟩
    exact (HF.out.ws.kept hg HF.out.free0).owcB (ok_wf (ok_cut HOK.out hu).1)
  · have u1 : (x.user == 1) = true := beqt (by omega)
    go_wp2_with (first | (refine wpList_load_row rfl 30 _ rfl w.heap.size rfl 30 us.toArray (0, 0) _ HBX.out Try.underlying30 rfl HIN.out ?_) | (go_at_call 13; refine HOK1.out.mono ?_; rintro e w2 ⟨rfl, hb2⟩; obtain ⟨y13, hy, hyz⟩ := HSB.out w2 hb2; have HYZ := hide hyz; have HB2 := hide hb2; have yl := hy.lt; have zzl := hyz.lt; clear hy hyz hb2) | (refine wpList_store_row rfl 30 _ _ rfl (w.heap.size + 1) zeroCells.toArray rfl rfl 30 zeroCells.toArray HYZ.out (by kernel_rfl) rfl (by simp [zeroCells, Value.oneCell']) ?_) | fail)
    refine bodyPost_ret (ret_row_tmp rfl _ _ (w.heap.size + 1) 30 zeroCells (HYZ.out.setRow' zeroCells) _ (.bool false) rfl rfl Try.underlying30 rfl (by kernel_rfl)) rfl ?_
    have u0 : (x.user == 0) = false := beqf hu
    have hbb : Below w.heap.size w w2 := HB1.out.trans (HB2.out.mono HB1.out.size)
    exact ⟨zeroCells, by rw [u0], rfl, by simp [zeroCells, Value.oneCell'], hbb.trans (below_of_grown (setRow_grown (grown_refl w2 (some (w.heap.size + 1))) zeroCells.toArray) (by omega) hbb.size), fun h => absurd h hu⟩
end Go.Proofs.Ytpkjjfnfolbcoaa
set_option linter.unusedVariables false
set_option linter.unusedSimpArgs false
namespace Go.Proofs.Ytpkjjfnfolbcoaa
open Go.ChangeShapes Go.WideShapes Go.ChangeAt Go.RowKit

def StepOut (y : CrewWorld) (w : World) (e : Ending) (w' : World) : Prop := ∃ us fp, e = .returned (.tuple #[.agg us.toArray, .bool true]) ∧ OwC w' y.cells us fp ∧ Lt fp w'.heap.size ∧ (∀ g ∈ fp, w.heap.size ≤ g) ∧ Below w.heap.size w w'
/-- at a step's end -/
structure Sz (w W : World) (y : CrewWorld) (us : List Value) (fp : List Nat) : Prop where
  box : Row W w.heap.size 30 us
  dat : OwC W y.cells us fp
  lt : Lt fp W.heap.size
  res : Row W (w.heap.size + 1 + 1) 30 zeroCells
  fr : Below w.heap.size w W
theorem Sz.of {w W : World} {y : CrewWorld} {v : V7} {q : Nat × TypeId × List Value} (h : Wz w W w.heap.size w.heap.size [(w.heap.size + 1 + 1, 30, zeroCells), q] id y v) (hy : y.ok) : ∃ us fp, Sz w W y us fp := by
  obtain ⟨fp, h1, h2⟩ := h.ws.owc (ok_wf hy)
  exact ⟨_, fp, h.box, h1, h2, h.row0, h.fr⟩
theorem Sz.stored {w W W' : World} {y : CrewWorld} {x : CrewWorld} {v : V7} {C : Nat} {q : Nat × TypeId × List Value} (h : Wz w W w.heap.size w.heap.size [(w.heap.size + 1 + 1, 30, zeroCells), q] id x v) (hC : w.heap.size + 1 + 1 < C) (hCs : C ≤ W.heap.size) {us : List Value} {fp : List Nat} (h1 : OwC W' y.cells us fp) (h2 : Lt fp W'.heap.size) (h3 : ∀ g ∈ fp, C ≤ g) (hb : Below C W W') : Sz w (W'.setRow w.heap.size us.toArray) y us fp := by
  have hg := setRow_grown (grown_refl W' (some w.heap.size)) us.toArray
  have hr := (h.box.below hb (by omega)).setRow' us
  have hz := h.row0.below hb hC
  have hn : w.heap.size ∉ fp := fun hm => by have := h3 _ hm; omega
  exact ⟨hr, h1.grown hg h2 hn, h2.mono hg.size, rowFar' hz (by omega) _, h.fr.trans ((hb.mono (by omega)).trans (below_of_grown hg (Nat.le_refl _) (Nat.le_trans h.sz hb.size)))⟩
theorem Sz.row {w W W' : World} {x : CrewWorld} {v : V7} {C : Nat} {q : Nat × TypeId × List Value} (h : Wz w W w.heap.size w.heap.size [(w.heap.size + 1 + 1, 30, zeroCells), q] id x v) (hC : w.heap.size + 1 + 1 < C) (hb : Below C W W') : Row W' w.heap.size 30 (v.cells x) := h.box.below hb (by omega)
/-- an empty slice is made late, and stands as what was given -/
theorem Wz.lateO {w0 W : World} {b B n : Nat} {R : List (Nat × TypeId × List Value)} {x : CrewWorld} {v : V7} (h : Wz w0 W b B R (fun l => l.set 12 (.slice (some ⟨n, 0, none⟩) 0 0)) x v) (hn : n = W.heap.size) : Wz w0 (W.alloc (.cells #[] 3)) b B R id { x with out := [] } { v with o := .slice (some ⟨n, 0, none⟩) 0 0 } := by
  subst hn
  have hl := h.lt
  have hbl : Below W.heap.size W (W.alloc (.cells #[] 3)) := (Below.refl _ _).alloc (Nat.le_refl _) _
  have hw := h.ws.new_o hbl (Nat.le_refl _) h.sz ⟨[], OwS.made W 3 1 intC⟩
  have fz : ∀ q, v.free q → q < W.heap.size → ({ v with o := .slice (some ⟨W.heap.size, 0, none⟩) 0 0 } : V7).free q := fun q hq hlt c hc e => by
    simp only [V7.list, List.mem_cons, List.mem_nil_iff, or_false] at hc
    rcases hc with rfl | rfl | rfl | rfl | rfl | rfl | rfl
    · exact hq v.q (by simp [V7.list]) e
    · exact hq v.h (by simp [V7.list]) e
    · exact hq v.r (by simp [V7.list]) e
    · exact hq v.g (by simp [V7.list]) e
    · injection e with e
      exact absurd e (Nat.ne_of_gt hlt)
    · exact hq v.t (by simp [V7.list]) e
    · exact hq v.s (by simp [V7.list]) e
  exact ⟨h.box.below hbl hl, hw, fz b h.free hl, fun r hr => by
    obtain ⟨r1, r2, r3⟩ := h.rows r hr
    exact ⟨r1.below hbl r1.lt, fz _ r2 r1.lt, r3⟩, h.fr.trans (hbl.mono h.sz), h.hb, Nat.le_trans h.sz hbl.size⟩
theorem owc_size {w : World} {x : CrewWorld} {us : List Value} {fp : List Nat} (h : OwC w x.cells us fp) : us.toArray.size = 18 := by
  have := h.length.trans (CrewWorld.cells_len x)
  simpa using this
theorem owc_one {w : World} {x : CrewWorld} {us : List Value} {fp : List Nat} (h : OwC w x.cells us fp) : us.toArray.all (·.oneCell') = true := by
  simp only [List.all_toArray, List.all_eq_true]
  exact OwC.cell1 _ h
theorem owc_info {w : World} {x : CrewWorld} {us : List Value} {fp : List Nat} (h : OwC w x.cells us fp) : (Try.prog.info? 30).map (·.size) = some us.toArray.size := by
  rw [owc_size h]
  exact info_crew
set_option maxRecDepth 100000 in
set_option maxHeartbeats 8000000 in
theorem specCrewStep_any (x : CrewWorld) (us : List Value) (fp : List Nat) (w : World) (ho : OwC w x.cells us fp) (hf : Lt fp w.heap.size) (hok : x.ok) (who k : Nat) (hw : (who : Int) ≤ x.workers + 3) (hk : (x.ways who)[k]? = some true) : Calls Try.prog 74 #[.agg us.toArray, .agg #[.int .i64 (who : Int), .int .i64 (k : Int)]] w (StepOut (x.step who (k : Int)) w) := by
  have HOK := hide hok
  have HYO := hide (ok_step hok hk).1
  obtain ⟨k1, k2, k3, k4, k5, k6, k7⟩ := ok_lens hok
  obtain ⟨k0n, k1n, k2n, k3n, k4n, k5n, k6n⟩ := ok_nums hok
  obtain ⟨s2, s4, s7, sh_, sr_⟩ := ok_some hok
  have SH := hide sh_
  clear sh_ sr_
  have HO := hide ho
  have HL := hide (ho.length.trans (CrewWorld.cells_len x))
  have HU18 := hide (show us.toArray.size = 18 from by simpa using HL.out)
  have HU1 := hide (show us[1]? = some (.int .i64 x.workers) from by
    obtain ⟨A1, c1, A2, c2, A3, c3, A4, c4, A5, c5, A6, c6, A7, c7, f1, f2, f3, f4, f5, f6, f7, rfl, wjobs, wworkers, wwindow, wnext, wreader, o1, o2, wcloser, o3, wkeeper, o4, wdue, o5, wuser, o6, wroom, o7, wops, rfl⟩ := ho.oCrewWorld
    rfl)
  have hkl : k < (x.ways who).length := (List.getElem?_eq_some_iff.1 hk).1
  have hwl := ways_len x who
  have t1 : tb (0 ≤ (who : Int) ∧ (who : Int) ≤ x.workers + 3) = true := tb_true ⟨by omega, hw⟩
  have t2 : tb (0 ≤ (k : Int) ∧ (k : Int) ≤ ((x.ways who).length : Int) - 1) = true := tb_true ⟨by omega, by omega⟩
  clear ho
  go_enter Try.func74, Try.ntmps74
  go_upto_region 1 with fail
  generalize hw1 : ((w.alloc _).alloc _).alloc _ = w1
  have hb1 : Below w.heap.size w w1 := by rw [← hw1]; exact (((Below.refl _ _).alloc (Nat.le_refl _) _).alloc (by rw [World.size_alloc]; omega) _).alloc (by rw [World.size_alloc, World.size_alloc]; omega) _
  have HBX := hide (show Row w1 w.heap.size 30 us from by rw [← hw1]; exact ((Row.new w _ _).alloc _).alloc _)
  have HM := hide (show Row w1 (w.heap.size + 1) 97 [.int .i64 (who : Int), .int .i64 (k : Int)] from by
    rw [← hw1]
    have h := (Row.new (w.alloc (.cells us.toArray 30)) 97 [.int .i64 (who : Int), .int .i64 (k : Int)]).alloc (.cells zeroCells.toArray 30)
    rw [World.size_alloc] at h
    exact h)
  have HZ := hide (show Row w1 (w.heap.size + 1 + 1) 30 zeroCells from by
    rw [← hw1]
    have h := Row.new ((w.alloc (.cells us.toArray 30)).alloc (.cells #[.int .i64 (who : Int), .int .i64 (k : Int)] 97)) 30 zeroCells
    rw [World.size_alloc, World.size_alloc] at h
    exact h)
  have HW1 := hide (HO.out.below hb1 hf)
  have HF1 := hide (hf.up hb1)
  have HOK1 := hide (specCrewOk_any x us fp w1 HW1.out HF1.out (by omega))
  rw [tb_true hok] at HOK1
  have HB1 := hide hb1
  have HIN := hide (show (Try.prog.info? 30).map (·.size) = some us.toArray.size from by
    rw [show us.toArray.size = 18 from HU18.out]
    exact info_crew)
  have HSB := hide (fun (W : World) (hb : Below w1.heap.size w1 W) => show (W.cell? ⟨w.heap.size, 1, none⟩ = some (.int .i64 x.workers) ∧ W.cell? ⟨w.heap.size + 1, 0, none⟩ = some (.int .i64 (who : Int)) ∧ W.cell? ⟨w.heap.size + 1, 1, none⟩ = some (.int .i64 (k : Int))) ∧ Row W w.heap.size 30 us ∧ Row W (w.heap.size + 1) 97 [.int .i64 (who : Int), .int .i64 (k : Int)] ∧ Row W (w.heap.size + 1 + 1) 30 zeroCells from by
    have h := HBX.out.below hb HBX.out.lt
    have hm := HM.out.below hb HM.out.lt
    exact ⟨⟨(h.cell 1).trans HU1.out, hm.cell 0, hm.cell 1⟩, h, hm, HZ.out.below hb HZ.out.lt⟩)
  clear hw1 hb1 hf HU1 HO
  have xl := HBX.out.lt
  have xz := HZ.out.lt
  obtain ⟨wv0, wu0⟩ := wk (x.workers + 3) (by omega) (by omega)
  obtain ⟨wv1, wu1⟩ := wk (x.workers + 2) (by omega) (by omega)
  obtain ⟨wv2, wu2⟩ := wk (x.workers + 1) (by omega) (by omega)
  obtain ⟨wv3, wu3⟩ := wk ((who : Int) - 1) (by omega) (by omega)
  obtain ⟨wl0, wl1⟩ := wk (((x.ways who).length : Int) - 1) (by omega) (by omega)
  have HI1 := hide (fun W => show Calls Try.prog 67 #[.int .i64 (who : Int), .int .i64 0, .int .i64 (x.workers + 3)] W (fun e w' => e = .returned (.bool true) ∧ W = w') from by
    have h := l6In_any (who : Int) 0 (x.workers + 3) W
    rw [t1] at h
    exact h)
  clear t1
  go_upto_region 3 with (first | (refine wpList_load_row rfl 30 _ rfl (w.heap.size) rfl 30 (us).toArray (0, 0) _ HBX.out Try.underlying30 rfl HIN.out ?_) | (go_at_call 67; refine (HI1.out _).mono ?_; rintro e w_ ⟨rfl, rfl⟩) | (go_at_call 13; refine HOK1.out.mono ?_; rintro e w2 ⟨rfl, hb2⟩; obtain ⟨⟨y1, y0m, y1m⟩, hy, hym, hyz⟩ := HSB.out w2 hb2; have HY := hide hy; have yl := hy.lt; have yml := hym.lt; have HB2 := hide hb2; clear hy hyz hym hb2) | fail)
  have HWY := hide (l52Ways_any x us fp w2 (HW1.out.below HB2.out HF1.out) (HF1.out.up HB2.out) HOK.out.form who hw)
  have HSB2 := hide (fun (W : World) (hb : Below w2.heap.size w2 W) => HSB.out W (HB2.out.trans (hb.mono HB2.out.size)))
  obtain ⟨l, hl⟩ : ∃ l, l = x.ways who := ⟨_, rfl⟩
  have HLW := hide hl
  rw [← hl] at HWY hkl hwl t2 wl0 wl1 hk
  have hlk : l[k] = true := by rw [List.getElem?_eq_getElem hkl] at hk; injection hk
  have HLK := hide hlk
  have HK := hide (hl ▸ hk : (x.ways who)[k]? = some true)
  have hkI : (k : Int) < (l.length : Int) := by omega
  have hk0 : (0 : Int) ≤ (k : Int) := by omega
  have HI2 := hide (fun W => show Calls Try.prog 67 #[.int .i64 (k : Int), .int .i64 0, .int .i64 ((l.length : Int) - 1)] W (fun e w' => e = .returned (.bool true) ∧ W = w') from by
    have h := l6In_any (k : Int) 0 ((l.length : Int) - 1) W
    rw [t2] at h
    exact h)
  clear hl hlk hk t2
  go_upto_region 6 with (first | (refine wpList_load_row rfl 30 _ rfl (w.heap.size) rfl 30 (us).toArray (0, 0) _ HY.out Try.underlying30 rfl HIN.out ?_) | (go_at_call 67; refine (HI2.out _).mono ?_; rintro e w_ ⟨rfl, rfl⟩) | (go_at_call 89; refine HWY.out.mono ?_; rintro e w3 ⟨g, rfl, hg, hr, hb3⟩; obtain ⟨⟨v1, v0m, v1m⟩, hy3, hym3, hyz3⟩ := HSB2.out w3 hb3; have HY3 := hide hy3; have vl := hy3.lt; have vml := hym3.lt; have HB3 := hide hb3; have qk : w3.cell? ⟨g, k, none⟩ = some (.bool true) := (by rw [hr.cell k]; simp [hkl, HLK.out]); have ql := hr.lt; clear hy3 hyz3 hym3 hb3 hr) | fail)
  have hb13 : Below w1.heap.size w1 w3 := HB2.out.trans (HB3.out.mono HB2.out.size)
  have HB13 := hide hb13
  have HCP := hide (l52Copy_any x us fp w3 (HW1.out.below hb13 HF1.out) (HF1.out.up hb13) HOK.out)
  have HSB3 := hide (fun (W : World) (hb : Below w3.heap.size w3 W) => HSB.out W (HB13.out.trans (hb.mono HB13.out.size)))
  have hw3s : w.heap.size + 1 + 1 < w3.heap.size := by have := HB13.out.size; omega
  clear hb13
  go_upto_region 9 with (first | (refine wpList_load_row rfl 30 _ rfl (w.heap.size) rfl 30 (us).toArray (0, 0) _ HY3.out Try.underlying30 rfl HIN.out ?_) | (go_at_call 125; refine HCP.out.mono ?_; rintro e w4 ⟨v, rfl, hws, hb4⟩; have HS4 := hide (HSB3.out w4 hb4).2; have HR4 := hide (HSB3.out w4 hb4).2.1; have HWS := hide hws; have HB4 := hide hb4; have HONE := hide hws.one; clear hws hb4) | (refine wpList_store_row rfl 30 _ _ rfl (w.heap.size) (v.cells x).toArray rfl rfl 30 (us).toArray HR4.out (by kernel_rfl) HU18.out HONE.out ?_) | fail)
  have hz4 := HS4.out.2.2.lt
  have hb4s := HB4.out.size
  have hbw : Below w.heap.size w w4 := HB1.out.trans (HB13.out.trans (HB4.out.mono HB13.out.size) |>.mono HB1.out.size)
  have HW := hide (show Wz w (w4.setRow w.heap.size (v.cells x).toArray) w.heap.size w.heap.size [(w.heap.size + 1 + 1, 30, zeroCells), (w.heap.size + 1, 97, [.int .i64 (who : Int), .int .i64 (k : Int)])] id x v from Wz.start3 (C := w3.heap.size) HR4.out HWS.out (by omega) (by omega) (fun r hr => by
    simp only [List.mem_cons, List.mem_nil_iff, or_false] at hr
    rcases hr with rfl | rfl
    · exact ⟨HS4.out.2.2, hw3s, by show w.heap.size + 1 + 1 ≠ w.heap.size; omega⟩
    · exact ⟨HS4.out.2.1, by show w.heap.size + 1 < _; omega, by show w.heap.size + 1 ≠ w.heap.size; omega⟩) hbw (Nat.le_refl _) hbw.size)
  have hg4 := setRow_grown (grown_refl w4 (some w.heap.size)) (v.cells x).toArray
  have HWC := hide (HWS.out.kept hg4 (HWS.out.freeOld (show w.heap.size < w3.heap.size by omega)))
  have hCs : w3.heap.size ≤ (w4.setRow w.heap.size (v.cells x).toArray).heap.size := Nat.le_trans hb4s hg4.size
  generalize w4.setRow _ _ = W4 at HW HWC hCs ⊢
  have HIV := hide (show (Try.prog.info? 30).map (·.size) = some (v.cells x).toArray.size from by kernel_rfl)
  clear hg4 hbw hz4 hb4s HS4 HR4 HWS HB4 HONE HSB HSB2 HSB3 HB13 HB3 HB2 HB1 HCP HY3 HY HWY HI2 HI1 HOK1 HIN HF1 HW1 HBX HM HZ HU18 HL
  generalize w3.heap.size = C at *
  have x1 : W4.cell? ⟨w.heap.size, 1, none⟩ = some (.int .i64 x.workers) := HW.out.box.cell 1
  have xl : w.heap.size < W4.heap.size := HW.out.lt
  have m0 : W4.cell? ⟨w.heap.size + 1, 0, none⟩ = some (.int .i64 (who : Int)) := HW.out.row1.cell 0
  have m1 : W4.cell? ⟨w.heap.size + 1, 1, none⟩ = some (.int .i64 (k : Int)) := HW.out.row1.cell 1
  have ml : w.heap.size + 1 < W4.heap.size := HW.out.row1.lt
  have zl : w.heap.size + 1 + 1 < W4.heap.size := HW.out.row0.lt
  clear y1 y0m y1m yl yml v1 v0m v1m vl vml qk ql xz
  by_cases e0 : who = 0
  · have q0 : ((who : Int) == 0) = true := beqt (by omega)
    have q0n : (who == 0) = true := by simpa using e0
    have HE := hide (show x.step who (k : Int) = x.doReader (k : Int) from by unfold CrewWorld.step; rw [if_pos e0])
    have hkk : x.rd[k]? = some true := by
      have h := HK.out
      unfold CrewWorld.ways at h
      rwa [if_pos e0] at h
    have HC := hide (show Calls Try.prog 126 #[.agg (v.cells x).toArray, .int .i64 (k : Int)] W4 (DoOut (x.doReader (k : Int)) C W4) from l52DoReader_any x v C W4 HWC.out hCs HOK.out k hkk)
    have HRB := hide (fun (W : World) (hb : Below C W4 W) => Sz.row HW.out hw3s hb)
    go_upto_region 23 with (first | (refine wpList_load_row rfl 30 _ rfl (w.heap.size) rfl 30 (v.cells x).toArray (0, 0) _ HW.out.box Try.underlying30 rfl HIV.out ?_) | (go_at_call 126; refine HC.out.mono ?_; rintro e w5 ⟨us5, fp5, rfl, o5, l5, c5, b5⟩; have HR5 := hide (HRB.out w5 b5); have yl := HR5.out.lt; have HO5 := hide o5; have HL5 := hide l5; have HC5 := hide c5; have HB5 := hide b5; have HI5 := hide (owc_info o5); have HU5 := hide (owc_size o5); have HN5 := hide (owc_one o5); clear o5 l5 c5 b5) | (refine wpList_store_row rfl 30 _ _ rfl (w.heap.size) (us5).toArray rfl rfl 30 (v.cells x).toArray HR5.out HI5.out HU5.out.symm HN5.out ?_) | fail)
    have HS5 := hide (Sz.stored HW.out hw3s hCs HO5.out HL5.out HC5.out HB5.out)
    generalize w5.setRow _ _ = W at HS5 ⊢
    rw [HE.out] at HYO
    have hxl := HS5.out.box.lt
    have hzl := HS5.out.res.lt
    have HIN5 := hide (owc_info HS5.out.dat)
    have HCP5 := hide (l52Copy_any (x.doReader (k : Int)) us5 fp5 W HS5.out.dat HS5.out.lt HYO.out)
    have HZB5 := hide (fun (W' : World) (hb : Below W.heap.size W W') => show Row W' (w.heap.size + 1 + 1) 30 zeroCells from HS5.out.res.below hb HS5.out.res.lt)
    go_wp2_with (first | (refine wpList_load_row rfl 30 _ rfl (w.heap.size) rfl 30 (us5).toArray (0, 0) _ HS5.out.box Try.underlying30 rfl HIN5.out ?_) | (go_at_call 125; refine HCP5.out.mono ?_; rintro e w6 ⟨v6, rfl, hws6, hb6⟩; have HZ6 := hide (HZB5.out w6 hb6); have HWS6 := hide hws6; have HB6 := hide hb6; have HONE6 := hide hws6.one; clear hws6 hb6) | (refine wpList_store_row rfl 30 _ _ rfl (w.heap.size + 1 + 1) (v6.cells (x.doReader (k : Int))).toArray rfl rfl 30 (zeroCells).toArray HZ6.out (by kernel_rfl) rfl HONE6.out ?_) | fail)
    refine bodyPost_ret (ret_row_tmp rfl _ _ (w.heap.size + 1 + 1) 30 (v6.cells (x.doReader (k : Int))) (HZ6.out.setRow' (v6.cells (x.doReader (k : Int)))) _ (.bool true) rfl rfl Try.underlying30 rfl (by kernel_rfl)) rfl ?_
    have hg := setRow_grown (grown_refl w6 (some (w.heap.size + 1 + 1))) (v6.cells (x.doReader (k : Int))).toArray
    obtain ⟨fp7, h1, h2, h3⟩ := (HWS6.out.kept hg (HWS6.out.freeOld hzl)).owcB (ok_wf HYO.out)
    have hf6 : Below w.heap.size w w6 := HS5.out.fr.trans (HB6.out.mono HS5.out.fr.size)
    rw [HE.out]
    exact ⟨_, fp7, rfl, h1, h2, fun g hg => by have := h3 g hg; have := HS5.out.fr.size; omega, hf6.trans (below_of_grown hg (by omega) hf6.size)⟩
  have q0 : ((who : Int) == 0) = false := beqf (by omega)
  have q0n : (who == 0) = false := by simpa using e0
  by_cases e1 : (who : Int) ≤ x.workers
  · have q1 : decide ((who : Int) ≤ x.workers) = true := dec_true e1
    have HE := hide (show x.step who (k : Int) = x.doHand (who - 1) (k : Int) from by unfold CrewWorld.step; rw [if_neg e0, if_pos e1])
    have hkk : (x.hw (x.hnd (who - 1)))[k]? = some true := by
      have h := HK.out
      unfold CrewWorld.ways at h
      rwa [if_neg e0, if_pos e1] at h
    have hil : who - 1 < x.hands.length := by have := SH.out; omega
    have hwm : ((who - 1 : Nat) : Int) = (who : Int) - 1 := by omega
    have HWM := hide hwm
    clear hwm
    have HC := hide (show Calls Try.prog 127 #[.agg (v.cells x).toArray, .int .i64 ((who : Int) - 1), .int .i64 (k : Int)] W4 (DoOut (x.doHand (who - 1) (k : Int)) C W4) from by have h := l52DoWorker_any x v C W4 HWC.out hCs HOK.out (who - 1) k hil hkk; rw [HWM.out] at h; exact h)
    have HRB := hide (fun (W : World) (hb : Below C W4 W) => Sz.row HW.out hw3s hb)
    go_upto_region 23 with (first | (refine wpList_load_row rfl 30 _ rfl (w.heap.size) rfl 30 (v.cells x).toArray (0, 0) _ HW.out.box Try.underlying30 rfl HIV.out ?_) | (go_at_call 127; refine HC.out.mono ?_; rintro e w5 ⟨us5, fp5, rfl, o5, l5, c5, b5⟩; have HR5 := hide (HRB.out w5 b5); have yl := HR5.out.lt; have HO5 := hide o5; have HL5 := hide l5; have HC5 := hide c5; have HB5 := hide b5; have HI5 := hide (owc_info o5); have HU5 := hide (owc_size o5); have HN5 := hide (owc_one o5); clear o5 l5 c5 b5) | (refine wpList_store_row rfl 30 _ _ rfl (w.heap.size) (us5).toArray rfl rfl 30 (v.cells x).toArray HR5.out HI5.out HU5.out.symm HN5.out ?_) | fail)
    have HS5 := hide (Sz.stored HW.out hw3s hCs HO5.out HL5.out HC5.out HB5.out)
    generalize w5.setRow _ _ = W at HS5 ⊢
    rw [HE.out] at HYO
    have hxl := HS5.out.box.lt
    have hzl := HS5.out.res.lt
    have HIN5 := hide (owc_info HS5.out.dat)
    have HCP5 := hide (l52Copy_any (x.doHand (who - 1) (k : Int)) us5 fp5 W HS5.out.dat HS5.out.lt HYO.out)
    have HZB5 := hide (fun (W' : World) (hb : Below W.heap.size W W') => show Row W' (w.heap.size + 1 + 1) 30 zeroCells from HS5.out.res.below hb HS5.out.res.lt)
    go_wp2_with (first | (refine wpList_load_row rfl 30 _ rfl (w.heap.size) rfl 30 (us5).toArray (0, 0) _ HS5.out.box Try.underlying30 rfl HIN5.out ?_) | (go_at_call 125; refine HCP5.out.mono ?_; rintro e w6 ⟨v6, rfl, hws6, hb6⟩; have HZ6 := hide (HZB5.out w6 hb6); have HWS6 := hide hws6; have HB6 := hide hb6; have HONE6 := hide hws6.one; clear hws6 hb6) | (refine wpList_store_row rfl 30 _ _ rfl (w.heap.size + 1 + 1) (v6.cells (x.doHand (who - 1) (k : Int))).toArray rfl rfl 30 (zeroCells).toArray HZ6.out (by kernel_rfl) rfl HONE6.out ?_) | fail)
    refine bodyPost_ret (ret_row_tmp rfl _ _ (w.heap.size + 1 + 1) 30 (v6.cells (x.doHand (who - 1) (k : Int))) (HZ6.out.setRow' (v6.cells (x.doHand (who - 1) (k : Int)))) _ (.bool true) rfl rfl Try.underlying30 rfl (by kernel_rfl)) rfl ?_
    have hg := setRow_grown (grown_refl w6 (some (w.heap.size + 1 + 1))) (v6.cells (x.doHand (who - 1) (k : Int))).toArray
    obtain ⟨fp7, h1, h2, h3⟩ := (HWS6.out.kept hg (HWS6.out.freeOld hzl)).owcB (ok_wf HYO.out)
    have hf6 : Below w.heap.size w w6 := HS5.out.fr.trans (HB6.out.mono HS5.out.fr.size)
    rw [HE.out]
    exact ⟨_, fp7, rfl, h1, h2, fun g hg => by have := h3 g hg; have := HS5.out.fr.size; omega, hf6.trans (below_of_grown hg (by omega) hf6.size)⟩
  have q1 : decide ((who : Int) ≤ x.workers) = false := dec_false e1
  by_cases e2 : (who : Int) = x.workers + 1
  · have q2 : ((who : Int) == x.workers + 1) = true := beqt e2
    have HE := hide (show x.step who (k : Int) = x.c1 from by unfold CrewWorld.step; rw [if_neg e0, if_neg e1, if_pos e2])
    rw [HE.out] at HYO
    clear e0 e1 e2
    obtain ⟨vq, vh, vr, vg, vo, vt, vs⟩ := v
    obtain ⟨A1, c1, e1⟩ := HW.out.ws.q.form
    change vq = _ at e1
    subst e1
    obtain ⟨g2, c2, e2, b2, l2, -⟩ := HW.out.ws.h.at0 (by show 0 < x.hands.length; omega)
    change vh = _ at e2
    subst e2
    obtain ⟨A3, c3, e3⟩ := HW.out.ws.r.form
    change vr = _ at e3
    subst e3
    obtain ⟨g4, c4, e4, b4, l4, -⟩ := HW.out.ws.g.at0 (by show 0 < x.ring.length; omega)
    change vg = _ at e4
    subst e4
    obtain ⟨A5, c5, e5⟩ := HW.out.ws.o.form
    change vo = _ at e5
    subst e5
    obtain ⟨A6, c6, e6⟩ := HW.out.ws.t.form
    change vt = _ at e6
    subst e6
    obtain ⟨g7, c7, e7, b7, l7, -⟩ := HW.out.ws.s.at0 (by show 0 < x.shut.length; omega)
    change vs = _ at e7
    subst e7
    clear HWC HIV
    have x7 : W4.cell? ⟨w.heap.size, 7, none⟩ = some (.int .i64 x.closer) := HW.out.box.cell 7
    have x16 : W4.cell? ⟨w.heap.size, 16, none⟩ = some (.slice (some ⟨g7, 0, none⟩) x.shut.length c7) := HW.out.box.cell 16
    have x17 : W4.cell? ⟨w.heap.size, 17, none⟩ = some (.int .i64 x.ops) := HW.out.box.cell 17
    have xf7 : W4.frozen? ⟨w.heap.size, 7, none⟩ = false := HW.out.box.frozen 7
    have xf17 : W4.frozen? ⟨w.heap.size, 17, none⟩ = false := HW.out.box.frozen 17
    have xl : w.heap.size < W4.heap.size := HW.out.lt
    have hg7b : g7 ≠ w.heap.size := fun e => HW.out.free (.slice (some ⟨g7, 0, none⟩) x.shut.length c7) (by simp [V7.list]) (congrArg some e)
    have hg7l : g7 < W4.heap.size := (HW.out.ws.s.lt g7 rfl).2
    have z7_0 : W4.cell? ⟨g7, 1, none⟩ = some (.int .i64 (x.shut[1]'(by omega))) := (HW.out.ws.s.cell 1 (by omega)).1
    have zf7_0 : W4.frozen? ⟨g7, 1, none⟩ = false := HW.out.ws.s.froz (by omega) 1
    obtain ⟨wv0, wu0⟩ := wk (x.ops + 1) (by omega) (by omega)
    go_upto_region 23 with fail
    have HF := hide (show Wz w _ w.heap.size w.heap.size [(w.heap.size + 1 + 1, 30, zeroCells), (w.heap.size + 1, 97, [.int .i64 (who : Int), .int .i64 (k : Int)])] id (x.c1) _ from ((HW.out.set_closer 1).int_s rfl 1 (by show 1 < x.shut.length; omega) 1 (by decide)).set_ops (x.ops + 1))
    obtain ⟨us5, fp5, hs5⟩ := Sz.of HF.out HYO.out
    have HS5 := hide hs5
    clear hs5 HF
    generalize World.setCell _ _ _ = W at HS5 ⊢
    have hxl := HS5.out.box.lt
    have hzl := HS5.out.res.lt
    have HIN5 := hide (owc_info HS5.out.dat)
    have HCP5 := hide (l52Copy_any (x.c1) us5 fp5 W HS5.out.dat HS5.out.lt HYO.out)
    have HZB5 := hide (fun (W' : World) (hb : Below W.heap.size W W') => show Row W' (w.heap.size + 1 + 1) 30 zeroCells from HS5.out.res.below hb HS5.out.res.lt)
    go_wp2_with (first | (refine wpList_load_row rfl 30 _ rfl (w.heap.size) rfl 30 (us5).toArray (0, 0) _ HS5.out.box Try.underlying30 rfl HIN5.out ?_) | (go_at_call 125; refine HCP5.out.mono ?_; rintro e w6 ⟨v6, rfl, hws6, hb6⟩; have HZ6 := hide (HZB5.out w6 hb6); have HWS6 := hide hws6; have HB6 := hide hb6; have HONE6 := hide hws6.one; clear hws6 hb6) | (refine wpList_store_row rfl 30 _ _ rfl (w.heap.size + 1 + 1) (v6.cells (x.c1)).toArray rfl rfl 30 (zeroCells).toArray HZ6.out (by kernel_rfl) rfl HONE6.out ?_) | fail)
    refine bodyPost_ret (ret_row_tmp rfl _ _ (w.heap.size + 1 + 1) 30 (v6.cells (x.c1)) (HZ6.out.setRow' (v6.cells (x.c1))) _ (.bool true) rfl rfl Try.underlying30 rfl (by kernel_rfl)) rfl ?_
    have hg := setRow_grown (grown_refl w6 (some (w.heap.size + 1 + 1))) (v6.cells (x.c1)).toArray
    obtain ⟨fp7, h1, h2, h3⟩ := (HWS6.out.kept hg (HWS6.out.freeOld hzl)).owcB (ok_wf HYO.out)
    have hf6 : Below w.heap.size w w6 := HS5.out.fr.trans (HB6.out.mono HS5.out.fr.size)
    rw [HE.out]
    exact ⟨_, fp7, rfl, h1, h2, fun g hg => by have := h3 g hg; have := HS5.out.fr.size; omega, hf6.trans (below_of_grown hg (by omega) hf6.size)⟩
  have q2 : ((who : Int) == x.workers + 1) = false := beqf e2
  by_cases e3 : (who : Int) = x.workers + 2
  · have q3 : ((who : Int) == x.workers + 2) = true := beqt e3
    have HE := hide (show x.step who (k : Int) = x.doKeeper (k : Int) from by unfold CrewWorld.step; rw [if_neg e0, if_neg e1, if_neg e2, if_pos e3])
    have hkk : x.kw[k]? = some true := by
      have h := HK.out
      unfold CrewWorld.ways at h
      rwa [if_neg e0, if_neg e1, if_neg e2, if_pos e3] at h
    clear e0 e1 e2 e3
    have HC := hide (show Calls Try.prog 128 #[.agg (v.cells x).toArray, .int .i64 (k : Int)] W4 (DoOut (x.doKeeper (k : Int)) C W4) from l52DoKeeper_any x v C W4 HWC.out hCs HOK.out k hkk)
    have HRB := hide (fun (W : World) (hb : Below C W4 W) => Sz.row HW.out hw3s hb)
    go_upto_region 23 with (first | (refine wpList_load_row rfl 30 _ rfl (w.heap.size) rfl 30 (v.cells x).toArray (0, 0) _ HW.out.box Try.underlying30 rfl HIV.out ?_) | (go_at_call 128; refine HC.out.mono ?_; rintro e w5 ⟨us5, fp5, rfl, o5, l5, c5, b5⟩; have HR5 := hide (HRB.out w5 b5); have yl := HR5.out.lt; have HO5 := hide o5; have HL5 := hide l5; have HC5 := hide c5; have HB5 := hide b5; have HI5 := hide (owc_info o5); have HU5 := hide (owc_size o5); have HN5 := hide (owc_one o5); clear o5 l5 c5 b5) | (refine wpList_store_row rfl 30 _ _ rfl (w.heap.size) (us5).toArray rfl rfl 30 (v.cells x).toArray HR5.out HI5.out HU5.out.symm HN5.out ?_) | fail)
    have HS5 := hide (Sz.stored HW.out hw3s hCs HO5.out HL5.out HC5.out HB5.out)
    generalize w5.setRow _ _ = W at HS5 ⊢
    rw [HE.out] at HYO
    have hxl := HS5.out.box.lt
    have hzl := HS5.out.res.lt
    have HIN5 := hide (owc_info HS5.out.dat)
    have HCP5 := hide (l52Copy_any (x.doKeeper (k : Int)) us5 fp5 W HS5.out.dat HS5.out.lt HYO.out)
    have HZB5 := hide (fun (W' : World) (hb : Below W.heap.size W W') => show Row W' (w.heap.size + 1 + 1) 30 zeroCells from HS5.out.res.below hb HS5.out.res.lt)
    go_wp2_with (first | (refine wpList_load_row rfl 30 _ rfl (w.heap.size) rfl 30 (us5).toArray (0, 0) _ HS5.out.box Try.underlying30 rfl HIN5.out ?_) | (go_at_call 125; refine HCP5.out.mono ?_; rintro e w6 ⟨v6, rfl, hws6, hb6⟩; have HZ6 := hide (HZB5.out w6 hb6); have HWS6 := hide hws6; have HB6 := hide hb6; have HONE6 := hide hws6.one; clear hws6 hb6) | (refine wpList_store_row rfl 30 _ _ rfl (w.heap.size + 1 + 1) (v6.cells (x.doKeeper (k : Int))).toArray rfl rfl 30 (zeroCells).toArray HZ6.out (by kernel_rfl) rfl HONE6.out ?_) | fail)
    refine bodyPost_ret (ret_row_tmp rfl _ _ (w.heap.size + 1 + 1) 30 (v6.cells (x.doKeeper (k : Int))) (HZ6.out.setRow' (v6.cells (x.doKeeper (k : Int)))) _ (.bool true) rfl rfl Try.underlying30 rfl (by kernel_rfl)) rfl ?_
    have hg := setRow_grown (grown_refl w6 (some (w.heap.size + 1 + 1))) (v6.cells (x.doKeeper (k : Int))).toArray
    obtain ⟨fp7, h1, h2, h3⟩ := (HWS6.out.kept hg (HWS6.out.freeOld hzl)).owcB (ok_wf HYO.out)
    have hf6 : Below w.heap.size w w6 := HS5.out.fr.trans (HB6.out.mono HS5.out.fr.size)
    rw [HE.out]
    exact ⟨_, fp7, rfl, h1, h2, fun g hg => by have := h3 g hg; have := HS5.out.fr.size; omega, hf6.trans (below_of_grown hg (by omega) hf6.size)⟩
  have q3 : ((who : Int) == x.workers + 2) = false := beqf e3
  by_cases ek : k = 0
  · have q4 : ((k : Int) == 0) = true := beqt (by omega)
    have q4n : (k == 0) = true := by simpa using ek
    have HE := hide (show x.step who (k : Int) = x.u0 from by unfold CrewWorld.step; rw [if_neg e0, if_neg e1, if_neg e2, if_neg e3, if_pos (by omega)])
    have hq : 0 < x.out.length := by
      have h := HK.out
      unfold CrewWorld.ways at h
      rw [if_neg e0, if_neg e1, if_neg e2, if_neg e3, ek] at h
      by_cases hu : x.user = 1
      · rw [if_pos hu] at h
        simp at h
      · rw [if_neg hu] at h
        simpa using h
    rw [HE.out] at HYO
    clear e0 e1 e2 e3 ek
    obtain ⟨ib, hib, jb0, jb1, jb2⟩ := info_parts info_int
    have HIb := hide hib
    clear hib
    obtain ⟨vq, vh, vr, vg, vo, vt, vs⟩ := v
    obtain ⟨A1, c1, e1⟩ := HW.out.ws.q.form
    change vq = _ at e1
    subst e1
    obtain ⟨g2, c2, e2, b2, l2, -⟩ := HW.out.ws.h.at0 (by show 0 < x.hands.length; omega)
    change vh = _ at e2
    subst e2
    obtain ⟨A3, c3, e3⟩ := HW.out.ws.r.form
    change vr = _ at e3
    subst e3
    obtain ⟨g4, c4, e4, b4, l4, -⟩ := HW.out.ws.g.at0 (by show 0 < x.ring.length; omega)
    change vg = _ at e4
    subst e4
    obtain ⟨A5, c5, e5⟩ := HW.out.ws.o.form
    change vo = _ at e5
    subst e5
    obtain ⟨A6, c6, e6⟩ := HW.out.ws.t.form
    change vt = _ at e6
    subst e6
    obtain ⟨g7, c7, e7, b7, l7, -⟩ := HW.out.ws.s.at0 (by show 0 < x.shut.length; omega)
    change vs = _ at e7
    subst e7
    clear HWC HIV
    obtain ⟨g5, c5', e5, b5, l5, -⟩ := HW.out.ws.o.at0 hq
    injection e5 with e5 e5n e5c
    subst e5 e5c
    clear e5n
    have qc : W4.cell? ⟨g5, 0, none⟩ = some (.int .i64 (x.out[0]?.getD 0)) := by rw [List.getElem?_eq_getElem hq]; exact (HW.out.ws.o.cell 0 hq).1
    have qw : (Lit.int .i64 (x.out[0]?.getD 0)).wf = true := by rw [List.getElem?_eq_getElem hq]; exact (HW.out.ws.o.cell 0 hq).2
    generalize hjj : x.out[0]?.getD 0 = j at qc qw
    have hE : x.u0 = { x with got := x.got ++ [j], out := [], ops := x.ops + 1 } := by unfold CrewWorld.u0; rw [hjj]
    rw [hE] at HE HYO
    clear hE hjj
    have hqI : (0 : Int) < (x.out.length : Int) := by omega
    have hqe : ¬ (x.out = []) := fun e => by rw [e] at hq; exact Nat.lt_irrefl _ hq
    have x12 : W4.cell? ⟨w.heap.size, 12, none⟩ = some (.slice (some ⟨g5, 0, none⟩) x.out.length c5) := HW.out.box.cell 12
    have x14 : W4.cell? ⟨w.heap.size, 14, none⟩ = some (.slice A6 x.got.length c6) := HW.out.box.cell 14
    have x17 : W4.cell? ⟨w.heap.size, 17, none⟩ = some (.int .i64 x.ops) := HW.out.box.cell 17
    have xf12 : W4.frozen? ⟨w.heap.size, 12, none⟩ = false := HW.out.box.frozen 12
    have xf14 : W4.frozen? ⟨w.heap.size, 14, none⟩ = false := HW.out.box.frozen 14
    have xf17 : W4.frozen? ⟨w.heap.size, 17, none⟩ = false := HW.out.box.frozen 17
    have xl : w.heap.size < W4.heap.size := HW.out.lt
    obtain ⟨wv0, wu0⟩ := wk (x.ops + 1) (by omega) (by omega)
    go_upto_region 20 with fail
    have HD5 := hide (HW.out.drewN 1)
    have HWA := hide (HD5.out.alloc (.cells #[.int .i64 j] 3))
    obtain ⟨ut_, hut_⟩ := HWA.out.ws.t
    have HQt := hide hut_
    clear hut_
    go_wp2_with fail
    go_region_law (first | (refine step_app (by rfl) _ _ 22 (by rfl) ib _ 8 Try.underlying22 HIb.out jb0 jb1 jb2 rfl (by decide) intC_len (by rfl) HQt.out [j] (int_srcP qw _) (by exact New.nil _ _) (fun q _ hq => by cases hq) _ 1 1 (by rfl) rfl (SrcAt.new (W4.drewN 1) _ _ _ _) (by first | omega | (simp only [List.length_append, List.length_cons, List.length_nil]; omega)) (by decide) HWA.out.sz ?_; intro w5A w5n w5c w5 hn5 hown5 hgb5; have HP5 := hide (HWA.out.app_t hgb5 hown5); have hr5 := hgb5.row HWA.out.box (HWA.out.free (.slice A6 x.got.length c6) (by simp [V7.list])); have w5x12 : w5.cell? ⟨w.heap.size, 12, none⟩ = some (.slice (some ⟨g5, 0, none⟩) x.out.length c5) := hr5.cell 12; have w5x14 : w5.cell? ⟨w.heap.size, 14, none⟩ = some (.slice A6 x.got.length c6) := hr5.cell 14; have w5x17 : w5.cell? ⟨w.heap.size, 17, none⟩ = some (.int .i64 x.ops) := hr5.cell 17; have w5y12 := hr5.frozen 12; have w5y14 := hr5.frozen 14; have w5y17 := hr5.frozen 17; have w5l := hr5.lt; clear hown5 hgb5 hn5 hr5))
    all_goals
      go_upto_region 23 with fail
      have HF := hide (show Wz w _ w.heap.size w.heap.size [(w.heap.size + 1 + 1, 30, zeroCells), (w.heap.size + 1, 97, [.int .i64 (who : Int), .int .i64 (k : Int)])] id ({ x with got := x.got ++ [j], out := [], ops := x.ops + 1 }) _ from ((HP5.out.put 12 (.slice (some ⟨w5.heap.size, 0, none⟩) 0 0) (fun l => l.set 12 (.slice (some ⟨w5.heap.size, 0, none⟩) 0 0)) _ rfl id).set_ops (x.ops + 1)).lateO (by simp))
      obtain ⟨us5, fp5, hs5⟩ := Sz.of HF.out HYO.out
      have HS5 := hide hs5
      clear hs5 HF
      generalize World.alloc _ _ = W at HS5 ⊢
      have hxl := HS5.out.box.lt
      have hzl := HS5.out.res.lt
      have HIN5 := hide (owc_info HS5.out.dat)
      have HCP5 := hide (l52Copy_any ({ x with got := x.got ++ [j], out := [], ops := x.ops + 1 }) us5 fp5 W HS5.out.dat HS5.out.lt HYO.out)
      have HZB5 := hide (fun (W' : World) (hb : Below W.heap.size W W') => show Row W' (w.heap.size + 1 + 1) 30 zeroCells from HS5.out.res.below hb HS5.out.res.lt)
      go_wp2_with (first | (refine wpList_load_row rfl 30 _ rfl (w.heap.size) rfl 30 (us5).toArray (0, 0) _ HS5.out.box Try.underlying30 rfl HIN5.out ?_) | (go_at_call 125; refine HCP5.out.mono ?_; rintro e w6 ⟨v6, rfl, hws6, hb6⟩; have HZ6 := hide (HZB5.out w6 hb6); have HWS6 := hide hws6; have HB6 := hide hb6; have HONE6 := hide hws6.one; clear hws6 hb6) | (refine wpList_store_row rfl 30 _ _ rfl (w.heap.size + 1 + 1) (v6.cells ({ x with got := x.got ++ [j], out := [], ops := x.ops + 1 })).toArray rfl rfl 30 (zeroCells).toArray HZ6.out (by kernel_rfl) rfl HONE6.out ?_) | fail)
      refine bodyPost_ret (ret_row_tmp rfl _ _ (w.heap.size + 1 + 1) 30 (v6.cells ({ x with got := x.got ++ [j], out := [], ops := x.ops + 1 })) (HZ6.out.setRow' (v6.cells ({ x with got := x.got ++ [j], out := [], ops := x.ops + 1 }))) _ (.bool true) rfl rfl Try.underlying30 rfl (by kernel_rfl)) rfl ?_
      have hg := setRow_grown (grown_refl w6 (some (w.heap.size + 1 + 1))) (v6.cells ({ x with got := x.got ++ [j], out := [], ops := x.ops + 1 })).toArray
      obtain ⟨fp7, h1, h2, h3⟩ := (HWS6.out.kept hg (HWS6.out.freeOld hzl)).owcB (ok_wf HYO.out)
      have hf6 : Below w.heap.size w w6 := HS5.out.fr.trans (HB6.out.mono HS5.out.fr.size)
      rw [HE.out]
      exact ⟨_, fp7, rfl, h1, h2, fun g hg => by have := h3 g hg; have := HS5.out.fr.size; omega, hf6.trans (below_of_grown hg (by omega) hf6.size)⟩
  have q4 : ((k : Int) == 0) = false := beqf (by omega)
  have q4n : (k == 0) = false := by simpa using ek
  have HE := hide (show x.step who (k : Int) = x.u1 from by unfold CrewWorld.step; rw [if_neg e0, if_neg e1, if_neg e2, if_neg e3, if_neg (by omega)])
  rw [HE.out] at HYO
  clear e0 e1 e2 e3 ek
  obtain ⟨vq, vh, vr, vg, vo, vt, vs⟩ := v
  obtain ⟨A1, c1, e1⟩ := HW.out.ws.q.form
  change vq = _ at e1
  subst e1
  obtain ⟨g2, c2, e2, b2, l2, -⟩ := HW.out.ws.h.at0 (by show 0 < x.hands.length; omega)
  change vh = _ at e2
  subst e2
  obtain ⟨A3, c3, e3⟩ := HW.out.ws.r.form
  change vr = _ at e3
  subst e3
  obtain ⟨g4, c4, e4, b4, l4, -⟩ := HW.out.ws.g.at0 (by show 0 < x.ring.length; omega)
  change vg = _ at e4
  subst e4
  obtain ⟨A5, c5, e5⟩ := HW.out.ws.o.form
  change vo = _ at e5
  subst e5
  obtain ⟨A6, c6, e6⟩ := HW.out.ws.t.form
  change vt = _ at e6
  subst e6
  obtain ⟨g7, c7, e7, b7, l7, -⟩ := HW.out.ws.s.at0 (by show 0 < x.shut.length; omega)
  change vs = _ at e7
  subst e7
  clear HWC HIV
  have x13 : W4.cell? ⟨w.heap.size, 13, none⟩ = some (.int .i64 x.user) := HW.out.box.cell 13
  have x17 : W4.cell? ⟨w.heap.size, 17, none⟩ = some (.int .i64 x.ops) := HW.out.box.cell 17
  have xf13 : W4.frozen? ⟨w.heap.size, 13, none⟩ = false := HW.out.box.frozen 13
  have xf17 : W4.frozen? ⟨w.heap.size, 17, none⟩ = false := HW.out.box.frozen 17
  have xl : w.heap.size < W4.heap.size := HW.out.lt
  obtain ⟨wv0, wu0⟩ := wk (x.ops + 1) (by omega) (by omega)
  go_upto_region 23 with fail
  have HF := hide (show Wz w _ w.heap.size w.heap.size [(w.heap.size + 1 + 1, 30, zeroCells), (w.heap.size + 1, 97, [.int .i64 (who : Int), .int .i64 (k : Int)])] id (x.u1) _ from (HW.out.set_user 1).set_ops (x.ops + 1))
  obtain ⟨us5, fp5, hs5⟩ := Sz.of HF.out HYO.out
  have HS5 := hide hs5
  clear hs5 HF
  generalize World.setCell _ _ _ = W at HS5 ⊢
  have hxl := HS5.out.box.lt
  have hzl := HS5.out.res.lt
  have HIN5 := hide (owc_info HS5.out.dat)
  have HCP5 := hide (l52Copy_any (x.u1) us5 fp5 W HS5.out.dat HS5.out.lt HYO.out)
  have HZB5 := hide (fun (W' : World) (hb : Below W.heap.size W W') => show Row W' (w.heap.size + 1 + 1) 30 zeroCells from HS5.out.res.below hb HS5.out.res.lt)
  go_wp2_with (first | (refine wpList_load_row rfl 30 _ rfl (w.heap.size) rfl 30 (us5).toArray (0, 0) _ HS5.out.box Try.underlying30 rfl HIN5.out ?_) | (go_at_call 125; refine HCP5.out.mono ?_; rintro e w6 ⟨v6, rfl, hws6, hb6⟩; have HZ6 := hide (HZB5.out w6 hb6); have HWS6 := hide hws6; have HB6 := hide hb6; have HONE6 := hide hws6.one; clear hws6 hb6) | (refine wpList_store_row rfl 30 _ _ rfl (w.heap.size + 1 + 1) (v6.cells (x.u1)).toArray rfl rfl 30 (zeroCells).toArray HZ6.out (by kernel_rfl) rfl HONE6.out ?_) | fail)
  refine bodyPost_ret (ret_row_tmp rfl _ _ (w.heap.size + 1 + 1) 30 (v6.cells (x.u1)) (HZ6.out.setRow' (v6.cells (x.u1))) _ (.bool true) rfl rfl Try.underlying30 rfl (by kernel_rfl)) rfl ?_
  have hg := setRow_grown (grown_refl w6 (some (w.heap.size + 1 + 1))) (v6.cells (x.u1)).toArray
  obtain ⟨fp7, h1, h2, h3⟩ := (HWS6.out.kept hg (HWS6.out.freeOld hzl)).owcB (ok_wf HYO.out)
  have hf6 : Below w.heap.size w w6 := HS5.out.fr.trans (HB6.out.mono HS5.out.fr.size)
  rw [HE.out]
  exact ⟨_, fp7, rfl, h1, h2, fun g hg => by have := h3 g hg; have := HS5.out.fr.size; omega, hf6.trans (below_of_grown hg (by omega) hf6.size)⟩
end Go.Proofs.Ytpkjjfnfolbcoaa
set_option linter.unusedVariables false
set_option linter.unusedSimpArgs false
namespace Go.Proofs.Ytpkjjfnfolbcoaa
open Go.ChangeShapes Go.WideShapes Go.ChangeAt Go.RowKit

def toldZero : List Value := [.bool false, .slice none 0 0, .slice none 0 0, .int .i64 0, .int .i64 0, .int .i64 0]
theorem toldZero_one : toldZero.toArray.all (·.oneCell') = true := by simp [toldZero, Value.oneCell']
def PlayRet (l : List CrewJob) (n1 n2 : Int) (ps : List Int) (cn : Int) (w : World) (e : Ending) (w' : World) : Prop := ∃ us fq, e = .returned (.agg us.toArray) ∧ OwC w' (playOf l n1 n2 ps cn).cells us fq ∧ New w' fq w.heap.size ∧ Below w.heap.size w w'
/-- the loop's world, in its box b -/
structure Rz (w wr : World) (b : Nat) (y : CrewWorld) (us : List Value) (fp : List Nat) : Prop where
  box : Row wr b 30 us
  dat : OwC wr y.cells us fp
  lt : Lt fp wr.heap.size
  nb : b ∉ fp
  nz : w.heap.size ∉ fp
  res : Row wr w.heap.size 45 toldZero
  fr : Below w.heap.size w wr
  hb : w.heap.size < b
section
variable {w wr W : World} {b : Nat} {x y : CrewWorld} {us us' : List Value} {fp fp' : List Nat}
theorem Rz.below (h : Rz w wr b y us fp) (hb : Below wr.heap.size wr W) : Rz w W b y us fp :=
  ⟨h.box.below hb h.box.lt, h.dat.below hb h.lt, h.lt.up hb, h.nb, h.nz, h.res.below hb h.res.lt, h.fr.trans (hb.mono h.fr.size), h.hb⟩
theorem Rz.store (h : Rz w wr b x us fp) (hb : Below wr.heap.size wr W) (hd : OwC W y.cells us' fp') (hl : Lt fp' W.heap.size) (hlo : ∀ g ∈ fp', wr.heap.size ≤ g) : Rz w (W.setRow b us'.toArray) b y us' fp' := by
  have hg := setRow_grown (grown_refl W (some b)) us'.toArray
  have h1 := h.below hb
  have hbl := h.box.lt
  have hzl := h.res.lt
  have hlb := h.hb
  have hn : b ∉ fp' := fun hm => by have := hlo _ hm; omega
  exact ⟨h1.box.setRow' us', hd.grown hg hl hn, hl.mono hg.size, hn, fun hm => by have := hlo _ hm; omega, rowFar' h1.res (by omega) _, h1.fr.trans (below_of_grown hg (by omega) h1.fr.size), h.hb⟩
/-- a value stored into a new box, as the laws' copy of it -/
theorem box_new (hd : OwC W y.cells us' fp') (hl : Lt fp' W.heap.size) (cs : List Value) : OwC ((W.alloc (.cells cs.toArray 30)).setRow W.heap.size us'.toArray) y.cells us' fp' ∧ Lt fp' ((W.alloc (.cells cs.toArray 30)).setRow W.heap.size us'.toArray).heap.size ∧ Below W.heap.size W ((W.alloc (.cells cs.toArray 30)).setRow W.heap.size us'.toArray) := by
  have hg := setRow_grown (grown_refl (W.alloc (.cells cs.toArray 30)) (some W.heap.size)) us'.toArray
  have ha : Below W.heap.size W (W.alloc (.cells cs.toArray 30)) := (Below.refl _ _).alloc (Nat.le_refl _) _
  have hb : Below W.heap.size W ((W.alloc (.cells cs.toArray 30)).setRow W.heap.size us'.toArray) := ha.trans (below_of_grown hg (Nat.le_refl _) ha.size)
  exact ⟨hd.below hb hl, hl.up hb, hb⟩
end
theorem left_674 {a n1 n2 : Int} (h : crewOk a n1 n2) : (crewAt a n1 n2).left ≤ 674 := by
  rw [start_left a n1 n2 h]
  obtain ⟨h1, h2, _⟩ := h
  omega
theorem played_le {a n1 n2 : Int} (h : crewOk a n1 n2) {ps : List Int} {c : Int} {n : Nat} (hp : PlayTo (crewAt a n1 n2) ps c n) : n ≤ 674 := by
  have h1 := run_le (start_ok h) hp
  have h2 := left_674 h
  omega
theorem jobsOk_take {l : List CrewJob} (h : jobsOk l) (m : Nat) : jobsOk (l.take m) := ⟨by rw [List.length_take]; have := h.1; omega, fun i hi => by
  rw [List.getElem_take]
  exact h.2 i (by rw [List.length_take] at hi; omega)⟩
theorem got_take {l : List CrewJob} {n1 n2 : Int} {ps : List Int} {c : Int} {n : Nat} (h : crewOk (l.length : Int) n1 n2) (hp : PlayTo (crewAt (l.length : Int) n1 n2) ps c n) : (runIn (crewAt (l.length : Int) n1 n2) ps c n).got.length ≤ l.length := by
  have h1 := runIn_ok (start_ok h) hp
  have h2 := laid_got h1.form h1.placed
  rw [(runIn_jobs _ _ _ _).1] at h2
  have e : (crewAt (l.length : Int) n1 n2).jobs = (l.length : Int) := rfl
  rw [e] at h2
  omega
end Go.Proofs.Ytpkjjfnfolbcoaa
