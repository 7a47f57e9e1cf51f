/-
  The draws of the reference: jobs of a crew (under way).
-/
import Derived.Deep.Cut
import Derived.Deep.CutRange
import Derived.Deep.DeepCutAuto
import Derived.Test.YtpkjjfnfolbcoaaQApp
import Derived.Test.YtpkjjfnfolbcoaaQDCrewJob
import Derived.Test.YtpkjjfnfolbcoaaQDraw
set_option linter.unusedVariables false
set_option linter.unusedSimpArgs false
namespace Go.Proofs.Ytpkjjfnfolbcoaa
open Go.ChangeShapes Go.WideShapes Go.ChangeAt Go.RowKit

theorem only_lowJ {a w w' : World} {row : Option Nat} {B : Nat} (h : a.grownBy w row) (hb : Below B w w') (hB : a.heap.size ≤ B) : a.grownBy w' row :=
  ⟨hb.os.trans h.os, hb.tape.trans h.tape, hb.output.trans h.output, Nat.le_trans h.size hb.size, fun i hi hr => (hb.block i (Nat.lt_of_lt_of_le hi hB)).trans (h.block i hi hr)⟩
theorem OwS.emptyJ {α : Type} (w : World) (e : TypeId) (k : Nat) (f : α → List D) : OwS (w.alloc (.cells #[] e)) w.heap.size e k f (.slice (some ⟨w.heap.size, 0, none⟩) 0 0) [] [] [] :=
  ⟨World.ownsRow_made w #[] 0 (Nat.le_refl _) (by unfold maxLen; omega) (by simp), by simp [OwC], New.nil _ _, fun g h => by simp⟩
/-- all its blocks lie below B: nothing from B on matters -/
theorem OwS.belowB {α : Type} {w w' : World} {B C : Nat} {e : TypeId} {k : Nat} {f : α → List D} {v : Value} {l : List α} {us : List Value} {fi : List Nat} (h : OwS w C e k f v l us fi) (hb : Below B w w') (hv : ∀ g, v.ownBlock = some g → g < B) (hf : Lt fi B) : OwS w' C e k f v l us fi := by
  refine ⟨?_, h.cells.below hb hf, h.new.below hb hf, h.out⟩
  refine ⟨h.own.1, ?_⟩
  rcases h.own.2 with hn | ⟨g, cap, cur, hv', hB, hg, rest⟩
  · exact .inl hn
  · refine .inr ⟨g, cap, cur, hv', hB, ?_, rest⟩
    rw [hb.block g (hv g (by rw [hv']; rfl))]
    exact hg
structure JobAt (w : World) (b : Nat) (bad : Int) (v : Value) (items : List Int) (us : List Value) : Prop where
  box : Row w b 100 [v, .int .i64 bad]
  its : OwS w (b + 1) 3 1 intC v items us []
theorem JobAt.far {w w' : World} {b : Nat} {bad : Int} {v : Value} {items : List Int} {us : List Value} (h : JobAt w b bad v items us) {g : Nat} (hg : w.grownBy w' (some g)) (hgb : g < b) : JobAt w' b bad v items us :=
  ⟨h.box.grown hg (fun e => by injection e with e; omega), h.its.kept hg (fun x e => by injection e with e; subst e; exact ⟨fun h => (by cases h), h.its.low (by omega)⟩)⟩
/-- an item more -/
theorem JobAt.put {w w' : World} {b : Nat} {bad : Int} {v v' : Value} {items items' : List Int} {us us' : List Value} (h : JobAt w b bad v items us) (hg : GB w w' v v') (hn : OwS w' (b + 1) 3 1 intC v' items' us' []) : JobAt (w'.setCell ⟨b, 0, none⟩ v') b bad v' items' us' :=
  ⟨(hg.row h.box (h.its.low (Nat.lt_succ_self _))).set 0 v', hn.setCell (fun h => (by cases h)) (hn.low (Nat.lt_succ_self _)) _⟩
theorem JobAt.setBad {w : World} {b : Nat} {bad : Int} {v : Value} {items : List Int} {us : List Value} (h : JobAt w b bad v items us) (x : Int) : JobAt (w.setCell ⟨b, 1, none⟩ (.int .i64 x)) b x v items us :=
  ⟨h.box.set 1 _, h.its.setCell (fun h => (by cases h)) (h.its.low (Nat.lt_succ_self _)) _⟩
/-- the job that is there -/
theorem JobAt.ow {w : World} {b : Nat} {bad : Int} {v : Value} {items : List Int} {us : List Value} (h : JobAt w b bad v items us) (hw : (Lit.int .i64 bad).wf = true) : ∃ fx, OwC w (CrewJob.mk items bad).cells [v, .int .i64 bad] fx ∧ New w fx (b + 1) := by
  obtain ⟨fx, ho, hn⟩ := h.its.toOw
  exact ⟨fx, OwC.mCrewJob (x := ⟨items, bad⟩) ho hw, hn⟩
theorem jobInfo : (Try.prog.info? 100).map (fun i => (i.zero, i.size, i.bytes)) = some (some (.agg #[.slice none 0 0, .int .i64 0]), 2, 32) := by kernel_rfl
def JobsOut (w : World) (g : Nat) (L : List UInt8) (k : Nat) (e : Ending) (w' : World) : Prop :=
  ∃ (v : Value) (l : List CrewJob) (fq : List Nat) (k' : Nat), e = .returned v ∧ Ow w' (.s 2 l.length (l.flatMap CrewJob.cells)) v fq ∧ New w' fq w.heap.size ∧ CrewJob.bulkL l ≤ 10000 ∧ k' ≤ k + 1000 ∧ RdD w' g L k' ∧ w.grownBy w' (some g)
/-- the jobs so far -/
structure JobsAt (w wr : World) (g : Nat) (L : List UInt8) (k : Nat) (v : Value) (l : List CrewJob) (us : List Value) (fi : List Nat) : Prop where
  own : OwS wr w.heap.size 100 2 CrewJob.cells v l us fi
  rd : RdD wr g L k
  gr : w.grownBy wr (some g)
theorem JobsAt.pick {w wr w' : World} {g : Nat} {L : List UInt8} {k k' : Nat} {v : Value} {l : List CrewJob} {us : List Value} {fi : List Nat} (h : JobsAt w wr g L k v l us fi) (hlg : g < w.heap.size) (hr : RdD w' g L k') (hg : wr.grownBy w' (some g)) : JobsAt w w' g L k' v l us fi :=
  ⟨h.own.kept hg (fun x e => by injection e with e; subst e; exact ⟨h.own.nlow hlg, h.own.low hlg⟩), hr, only_trans h.gr hg⟩
theorem JobsAt.step {w wr w' : World} {g : Nat} {L : List UInt8} {k : Nat} {v : Value} {l : List CrewJob} {us : List Value} {fi : List Nat} (h : JobsAt w wr g L k v l us fi) (hb : Below wr.heap.size wr w') : JobsAt w w' g L k v l us fi :=
  ⟨h.own.below (C := 0) hb, h.rd.below hb, only_trans h.gr (grownBy_below hb (some g))⟩
theorem JobsAt.low {w wr w' : World} {g B : Nat} {L : List UInt8} {k : Nat} {v : Value} {l : List CrewJob} {us : List Value} {fi : List Nat} (h : JobsAt w wr g L k v l us fi) (hb : Below B wr w') (hgB : g < B) (hwB : w.heap.size ≤ B) (hv : ∀ x, v.ownBlock = some x → x < B) (hf : Lt fi B) : JobsAt w w' g L k v l us fi :=
  ⟨h.own.belowB hb hv hf, h.rd.low hb hgB, only_lowJ h.gr hb hwB⟩
theorem JobAt.alloc {w : World} {b : Nat} {bad : Int} {v : Value} {items : List Int} {us : List Value} (h : JobAt w b bad v items us) (o : Obj) : JobAt (w.alloc o) b bad v items us := ⟨h.box.alloc o, h.its.alloc o⟩
/-- a job more -/
theorem JobsAt.grow {w wr w' : World} {g : Nat} {L : List UInt8} {k : Nat} {v v' : Value} {l l' : List CrewJob} {us us' : List Value} {fi fi' : List Nat} (h : JobsAt w wr g L k v l us fi) (hlg : g < w.heap.size) (hg : GB wr w' v v') (hn : OwS w' w.heap.size 100 2 CrewJob.cells v' l' us' fi') : JobsAt w w' g L k v' l' us' fi' :=
  have hb : Below w.heap.size wr w' := hg.toBelow h.gr.size (fun x e => h.own.from e)
  ⟨hn, h.rd.low hb hlg, only_lowJ h.gr hb (Nat.le_refl _)⟩
theorem OwC.splitJ {w : World} : ∀ {l r : List D} {us : List Value} {fp : List Nat}, OwC w (l ++ r) us fp → ∃ u1 u2 f1 f2, us = u1 ++ u2 ∧ fp = f1 ++ f2 ∧ OwC w l u1 f1 ∧ OwC w r u2 f2
  | [], _, us, fp, h => ⟨[], us, [], fp, rfl, rfl, by simp [OwC], h⟩
  | d :: l, r, us, fp, h => by
    cases us with
    | nil => exact h.elim
    | cons y us =>
      obtain ⟨f1, f2, h1, h2, rfl⟩ := h
      obtain ⟨u1, u2, g1, g2, rfl, rfl, k1, k2⟩ := OwC.splitJ (l := l) h2
      exact ⟨y :: u1, u2, f1 ++ g1, g2, rfl, by simp, ⟨f1, g1, h1, k1, rfl⟩, k2⟩
/-- one cell of an own slice is stored -/
theorem OwS.swapJ {α : Type} {w : World} {B : Nat} {e : TypeId} {k : Nat} {f : α → List D} {g c : Nat} {l l' : List α} {us : List Value} {fi fi' : List Nat} (h : OwS w B e k f (.slice (some ⟨g, 0, none⟩) l.length c) l us fi) (j : Nat) (hj : j < l.length * k) (u : Value)
    (hl : l'.length = l.length) (hc : OwC (w.setCell ⟨g, j, none⟩ u) (l'.flatMap f) (us.set j u) fi') (hn : New (w.setCell ⟨g, j, none⟩ u) fi' B) (hg : g ∉ fi') :
    OwS (w.setCell ⟨g, j, none⟩ u) B e k f (.slice (some ⟨g, 0, none⟩) l'.length c) l' (us.set j u) fi' := by
  refine ⟨?_, hc, hn, fun b hb => by injection hb with hb; subst hb; exact hg⟩
  refine ⟨by rw [List.length_set, hl]; exact h.own.1, ?_⟩
  rcases h.own.2 with ⟨hn, _⟩ | ⟨g', cap, cur, hv, hB, hg, h3, h4, h5, h6⟩
  · cases hn
  · injection hv with hv1 hv2 hv3
    injection hv1 with hv1
    injection hv1 with hv1
    subst hv1 hv3
    refine .inr ⟨g, c, cur.setIfInBounds j u, by rw [hl], hB, ?_, by rw [hl]; exact h3, h4, by simpa using h5, ?_⟩
    · simp [World.setCell, Array.getElem?_modify, hg]
    · rw [hl, Array.toList_setIfInBounds, List.take_set, h6]
theorem JobsAt.touch {w wr w' : World} {g : Nat} {L : List UInt8} {k : Nat} {v v' : Value} {l l' : List CrewJob} {us us' : List Value} {fi fi' : List Nat} (h : JobsAt w wr g L k v l us fi) (hlg : g < w.heap.size) (hb : Below w.heap.size wr w') (hn : OwS w' w.heap.size 100 2 CrewJob.cells v' l' us' fi') : JobsAt w w' g L k v' l' us' fi' :=
  ⟨hn, h.rd.low hb hlg, only_lowJ h.gr hb (Nat.le_refl _)⟩
theorem JobsAt.bad0 {w wr : World} {g b c : Nat} {L : List UInt8} {k : Nat} {y : CrewJob} {r : List CrewJob} {us : List Value} {fi : List Nat} (h : JobsAt w wr g L k (.slice (some ⟨b, 0, none⟩) (y :: r).length c) (y :: r) us fi) (hlg : g < w.heap.size) :
    JobsAt w (wr.setCell ⟨b, 1, none⟩ (.int .i64 (-1))) g L k (.slice (some ⟨b, 0, none⟩) ((⟨y.items, -1⟩ : CrewJob) :: r).length c) (⟨y.items, -1⟩ :: r) (us.set 1 (.int .i64 (-1))) fi := by
  have hB : w.heap.size ≤ b := h.own.from rfl
  have hgf : b ∉ fi := h.own.out b rfl
  refine h.touch hlg ((Below.refl _ _).setCell (p := ⟨b, 1, none⟩) hB _) (h.own.swapJ 1 (by simp only [List.length_cons]; omega) _ rfl ?_ (h.own.new.setCell _ _) hgf)
  have hc := h.own.cells
  rw [List.flatMap_cons] at hc
  obtain ⟨u1, u2, f1, f2, rfl, rfl, h1, h2⟩ := hc.splitJ
  obtain ⟨A, ci, fx, rfl, ho, _, rfl⟩ := h1.oCrewJob
  have h1' : OwC wr (CrewJob.mk y.items (-1)).cells [.slice A y.items.length ci, .int .i64 (-1)] fx := OwC.mCrewJob (x := ⟨y.items, -1⟩) ho (show (Lit.int .i64 (-1)).wf = true from WalkArith.wf_i64 ⟨by omega, by omega⟩)
  rw [List.flatMap_cons]
  exact (h1'.append h2).setCell hgf _
theorem intsZeroJ (w : World) : ∀ m : Nat, OwC w ((List.replicate m (0 : Int)).flatMap intC) (List.replicate m (.int .i64 0)) []
  | 0 => by simp [OwC]
  | m + 1 => by
    rw [List.replicate_succ, List.replicate_succ, List.flatMap_cons]
    have h1 : OwC w (intC 0) [.int .i64 0] [] := ⟨[], [], ⟨rfl, WalkArith.wf_i64 ⟨by omega, by omega⟩, rfl⟩, rfl, rfl⟩
    exact h1.append (intsZeroJ w m)
theorem OwS.madeJ (w : World) (m : Nat) (hm : m ≤ 1000) : OwS (w.alloc (.cells (List.replicate m (.int .i64 0)).toArray 3)) w.heap.size 3 1 intC (.slice (some ⟨w.heap.size, 0, none⟩) m m) (List.replicate m 0) (List.replicate m (.int .i64 0)) [] := by
  refine ⟨⟨by simp, .inr ⟨w.heap.size, m, _, by simp, Nat.le_refl _, heap_alloc_new w _, by simp, by unfold maxLen; omega, by simp, by simp⟩⟩, intsZeroJ _ m, New.nil _ _, fun g h => by simp⟩
theorem JobsAt.items0 {w wr : World} {g b c : Nat} {L : List UInt8} {k : Nat} {y : CrewJob} {r : List CrewJob} {us : List Value} {fi : List Nat} (h : JobsAt w wr g L k (.slice (some ⟨b, 0, none⟩) (y :: r).length c) (y :: r) us fi) (hlg : g < w.heap.size) (m : Nat) (hm : m ≤ 1000) :
    ∃ us' fi', JobsAt w ((wr.alloc (.cells (List.replicate m (.int .i64 0)).toArray 3)).setCell ⟨b, 0, none⟩ (.slice (some ⟨wr.heap.size, 0, none⟩) m m)) g L k (.slice (some ⟨b, 0, none⟩) ((⟨List.replicate m 0, y.bad⟩ : CrewJob) :: r).length c) (⟨List.replicate m 0, y.bad⟩ :: r) us' fi' := by
  have hB : w.heap.size ≤ b := h.own.from rfl
  have hbl : b < wr.heap.size := h.own.lt b rfl
  have hgf : b ∉ fi := h.own.out b rfl
  have hfl := h.own.new.lt
  have h1 := h.step ((Below.refl wr.heap.size wr).alloc (Nat.le_refl _) (.cells (List.replicate m (.int .i64 0)).toArray 3))
  obtain ⟨fx, ho, hn⟩ := (OwS.madeJ wr m hm).toOw
  generalize wr.alloc (.cells (List.replicate m (.int .i64 0)).toArray 3) = W at h1 ho hn ⊢
  have hc := h1.own.cells
  have hnw := h1.own.new
  rw [List.flatMap_cons] at hc
  obtain ⟨u1, u2, f1, f2, rfl, rfl, k1, k2⟩ := hc.splitJ
  obtain ⟨A, ci, f1', rfl, _, hw, rfl⟩ := k1.oCrewJob
  have n2 := hnw.right
  have hgx : b ∉ fx := hn.out hbl
  have hg2 : b ∉ f2 := fun hm => hgf (List.mem_append_right _ hm)
  have hgn : b ∉ fx ++ f2 := fun hm => (List.mem_append.1 hm).elim hgx hg2
  have hN : New W (fx ++ f2) w.heap.size := by
    refine ⟨fun a ha => ?_, List.nodup_append.2 ⟨hn.nd, n2.nd, fun a ha d hd e => ?_⟩, fun a ha => ?_⟩
    · rcases List.mem_append.1 ha with ha | ha
      · have := hn.fr a ha
        have := h.gr.size
        exact ⟨by omega, by omega⟩
      · exact n2.fr a ha
    · have := (hn.fr a ha).1
      have := hfl d (List.mem_append_right _ hd)
      omega
    · rcases List.mem_append.1 ha with ha | ha
      · exact hn.uf a ha
      · exact n2.uf a ha
  have ho' : Ow W (.s 1 (CrewJob.mk (List.replicate m 0) y.bad).items.length ((CrewJob.mk (List.replicate m 0) y.bad).items.flatMap intC)) (.slice (some ⟨wr.heap.size, 0, none⟩) m m) fx := ho
  have hj := OwC.mCrewJob (x := ⟨List.replicate m 0, y.bad⟩) ho' hw
  refine ⟨_, _, h1.touch hlg ((Below.refl _ _).setCell (p := ⟨b, 0, none⟩) hB _) (h1.own.swapJ (l' := ⟨List.replicate m 0, y.bad⟩ :: r) 0 (by simp only [List.length_cons]; omega) _ rfl ?_ (hN.setCell _ _) hgn)⟩
  rw [List.flatMap_cons]
  exact (hj.append k2).setCell hgn _
theorem JobsAt.out {w wr : World} {g : Nat} {L : List UInt8} {k k' : Nat} {v : Value} {l : List CrewJob} {us : List Value} {fi : List Nat} (h : JobsAt w wr g L k' v l us fi) (hl : CrewJob.bulkL l ≤ 10000) (hk : k' ≤ k + 1000) : JobsOut w g L k (.returned v) wr := by
  obtain ⟨fp, ho, hn⟩ := h.own.toOw
  exact ⟨v, l, fp, k', rfl, ho, hn, hl, hk, h.rd, h.gr⟩
/-- the slice of the jobs, and the row it lies in -/
theorem JobsAt.form {w wr : World} {g : Nat} {L : List UInt8} {k : Nat} {v : Value} {l : List CrewJob} {us : List Value} {fi : List Nat} (h : JobsAt w wr g L k v l us fi) (hl : 0 < l.length) :
    ∃ b c, v = .slice (some ⟨b, 0, none⟩) l.length c ∧ b < wr.heap.size ∧ (∀ j, j < 2 → ∃ z, wr.cell? ⟨b, j, none⟩ = some z) ∧ (∀ j, wr.frozen? ⟨b, j, none⟩ = false) := by
  rcases h.own.own.2 with ⟨_, hn⟩ | ⟨b, cap, cur, rfl, hB, hg, h3, h4, h5, h6⟩
  · omega
  · refine ⟨b, cap, rfl, h.own.lt b rfl, fun j hj => ?_, fun j => by simp [World.frozen?, hg]⟩
    have : j < cur.size := by omega
    exact ⟨cur[j], by rw [cell_of_row wr b j cur _ (0, 0) hg]; simp [this]⟩
theorem JobsAt.bad1 {w wr : World} {g b n c : Nat} {L : List UInt8} {k : Nat} {l : List CrewJob} {us : List Value} {fi : List Nat} (h : JobsAt w wr g L k (.slice (some ⟨b, 0, none⟩) n c) l us fi) (hl : l.length = n) (hp : 0 < n) (hlg : g < w.heap.size) :
    ∃ l' us' fi', l'.length = n ∧ CrewJob.bulkS l' ≤ CrewJob.bulkS l ∧ JobsAt w (wr.setCell ⟨b, 1, none⟩ (.int .i64 (-1))) g L k (.slice (some ⟨b, 0, none⟩) n c) l' us' fi' := by
  subst hl
  cases l with
  | nil => simp at hp
  | cons y r => exact ⟨⟨y.items, -1⟩ :: r, _, _, rfl, by simp only [CrewJob.bulkS, CrewJob.bulk]; omega, h.bad0 hlg⟩
theorem JobsAt.items1 {w wr : World} {g b n c : Nat} {L : List UInt8} {k : Nat} {l : List CrewJob} {us : List Value} {fi : List Nat} (h : JobsAt w wr g L k (.slice (some ⟨b, 0, none⟩) n c) l us fi) (hl : l.length = n) (hp : 0 < n) (hlg : g < w.heap.size) (m : Nat) (hm : m ≤ 1000) :
    ∃ l' us' fi', l'.length = n ∧ CrewJob.bulkS l' ≤ CrewJob.bulkS l + m ∧ JobsAt w ((wr.alloc (.cells (List.replicate m (.int .i64 0)).toArray 3)).setCell ⟨b, 0, none⟩ (.slice (some ⟨wr.heap.size, 0, none⟩) m m)) g L k (.slice (some ⟨b, 0, none⟩) n c) l' us' fi' := by
  subst hl
  cases l with
  | nil => simp at hp
  | cons y r =>
    obtain ⟨us', fi', h'⟩ := h.items0 hlg m hm
    exact ⟨⟨List.replicate m 0, y.bad⟩ :: r, us', fi', rfl, by simp only [CrewJob.bulkS, CrewJob.bulk, List.length_replicate]; omega, h'⟩
/-- the row at any later world -/
theorem JobsAt.cells01 {w wr : World} {g b n c : Nat} {L : List UInt8} {k : Nat} {l : List CrewJob} {us : List Value} {fi : List Nat} (h : JobsAt w wr g L k (.slice (some ⟨b, 0, none⟩) n c) l us fi) (hl : l.length = n) (hp : 0 < n) :
    b < wr.heap.size ∧ (∃ z, wr.cell? ⟨b, 0, none⟩ = some z) ∧ (∃ z, wr.cell? ⟨b, 1, none⟩ = some z) ∧ wr.frozen? ⟨b, 0, none⟩ = false ∧ wr.frozen? ⟨b, 1, none⟩ = false := by
  obtain ⟨b', c', hv, h1, h2, h3⟩ := h.form (by omega)
  injection hv with e1 e2 e3
  injection e1 with e1
  injection e1 with e1
  subst e1
  exact ⟨h1, h2 0 (by omega), h2 1 (by omega), h3 0, h3 1⟩
set_option maxRecDepth 100000 in
set_option maxHeartbeats 2000000 in
theorem l54Jobs_any {L : List UInt8} {k g : Nat} {w : World} (h : RdD w g L k) (hk : k ≤ 1000) :
    Calls Try.prog 92 #[.pointer (some ⟨g, 0, none⟩)] w (JobsOut w g L k) := by
  have hlg := h.lt
  have HB0 := hide (show Below w.heap.size w (w.alloc (.cells #[] 100)) from (Below.refl _ _).alloc (Nat.le_refl _) _)
  have HJ0 := hide (show JobsAt w (w.alloc (.cells #[] 100)) g L k (.slice (some ⟨w.heap.size, 0, none⟩) 0 0) [] [] [] from ⟨OwS.emptyJ w _ _ _, h.below HB0.out, grownBy_below HB0.out (some g)⟩)
  have HP := hide (pick_any HJ0.out.rd (n := 14) (by omega) (by omega) (by omega))
  clear h
  go_enter Try.func92, Try.ntmps92
  go_wp2_with fail
  refine HP.out.mono ?_
  rintro e w2 ⟨n0, rfl, hn0, h2, hg2⟩
  have HJ2 := hide (HJ0.out.pick hlg h2 hg2)
  clear h2 hg2 HP HJ0 HB0
  have HP := hide (pick_any HJ2.out.rd (n := 20) (by omega) (by omega) (by omega))
  go_wp2_with fail
  refine HP.out.mono ?_
  rintro e w3 ⟨r, rfl, hr, h3, hg3⟩
  have HJ3 := hide (HJ2.out.pick hlg h3 hg3)
  clear h3 hg3 HP HJ2
  by_cases r0 : r = 0
  · subst r0
    have HP := hide (pick_any HJ3.out.rd (n := 2) (by omega) (by omega) (by omega))
    go_wp2_with fail
    refine HP.out.mono ?_
    rintro e w4 ⟨q, rfl, hq, h4, hg4⟩
    have HJN := hide (HJ3.out.pick hlg h4 hg4)
    obtain ⟨n, hnq⟩ : ∃ n : Nat, (60 : Int) + (q : Int) = (n : Int) := ⟨60 + q, by omega⟩
    have hn61 : n ≤ 61 := by omega
    clear h4 hg4 HJ3
    clear HP
    go_wp2
    (try simp only [hrb])
    go_loopw [3, 5] (fun jv iv wr => ∃ (i : Nat) (l : List CrewJob) (us : List Value) (fi : List Nat) (k' : Nat), iv = .int .i64 (i : Int) ∧ i ≤ n ∧ l.length = i ∧ CrewJob.bulkS l ≤ 3 * i ∧ k' ≤ k + 3 + 10 * i ∧ JobsAt w wr g L k' jv l us fi) (fun _ iv _ => n - (intOf iv).toNat)
    case atStart => exact ⟨0, [], [], [], _, rfl, by omega, rfl, by simp [CrewJob.bulkS], by omega, HJN.out⟩
    case round =>
      obtain ⟨wb, rfl⟩ : ∃ W, W = wr := ⟨_, rfl⟩
      obtain ⟨jv, rfl⟩ : ∃ V, V = u3 := ⟨_, rfl⟩
      obtain ⟨i, l, us, fi, k2, rfl, hin, hli, hbk, hk2, hj⟩ := hrel
      have HJ := hide hj
      have HBK := hide hbk
      have HLI := hide hli
      clear hj hbk hli HJN
      by_cases hlt : i < n
      · have hltI : (i : Int) < (n : Int) := by omega
        have hi61 : i ≤ 60 := by omega
        have hgb : g < wb.heap.size := HJ.out.rd.lt
        have hwb : w.heap.size ≤ wb.heap.size := HJ.out.gr.size
        have HLV := hide HJ.out.own.lt
        have HLF := hide HJ.out.own.new.lt
        go_upto_region 9 with fail
        generalize hw5 : World.alloc wb _ = w5
        have hb5 : Below wb.heap.size wb w5 := by rw [← hw5]; exact (Below.refl _ _).alloc (Nat.le_refl _) _
        have HA5 := hide (show JobAt w5 wb.heap.size 0 (.slice none 0 0) [] [] from ⟨by rw [← hw5]; exact Row.new wb _ _, OwS.nil _ _ _ _ _⟩)
        have HJ5 := hide (HJ.out.step hb5)
        have HP := hide (pick_any HJ5.out.rd (n := 4) (by omega) (by omega) (by omega))
        clear hw5 hb5 HJ
        go_wp2_with fail
        refine HP.out.mono ?_
        rintro e w6 ⟨m0, rfl, hm0, h6, hg6⟩
        have HJ6 := hide (HJ5.out.pick hlg h6 hg6)
        have HA6 := hide (HA5.out.far hg6 hgb)
        clear h6 hg6 HP HJ5 HA5
        go_wp2
        go_loopw [7] (fun mv wz => ∃ (m : Nat) (items : List Int) (v : Value) (us2 : List Value), mv = .int .i64 (m : Int) ∧ items.length + m ≤ 3 ∧ JobAt wz wb.heap.size 0 v items us2 ∧ Below wb.heap.size w6 wz) (fun mv _ => (intOf mv).toNat)
        case atStart => exact ⟨m0, [], _, [], rfl, by simp; omega, HA6.out, ⟨rfl, rfl, rfl, Nat.le_refl _, fun _ _ => rfl⟩⟩
        case round =>
          obtain ⟨wz, rfl⟩ : ∃ W, W = wr := ⟨_, rfl⟩
          obtain ⟨m, items, v, us2, rfl, hmi, ha, hbz⟩ := hrel
          have HA := hide ha
          have HBZ := hide hbz
          have HMI := hide hmi
          have hil3 : items.length ≤ 3 := by omega
          clear ha hbz HA6 hmi
          by_cases hm0 : m = 0
          · subst hm0
            have HJZ := hide (HJ6.out.low HBZ.out hgb hwb HLV.out HLF.out)
            have HP := hide (pick_any HJZ.out.rd (n := 4) (by omega) (by omega) (by omega))
            go_wp2_with fail
            refine HP.out.mono ?_
            rintro e w8 ⟨r4, rfl, hr4, h8, hg8⟩
            have HJ8 := hide (HJZ.out.pick hlg h8 hg8)
            have HA8 := hide (HA.out.far hg8 hgb)
            clear h8 hg8 HP HJZ HA HJ6
            by_cases r40 : r4 = 0
            · subst r40
              have HP := hide (pick_any HJ8.out.rd (n := 9) (by omega) (by omega) (by omega))
              go_wp2_with fail
              refine HP.out.mono ?_
              rintro e w9 ⟨q9, rfl, hq9, h9, hg9⟩
              have HJ9 := hide (HJ8.out.pick hlg h9 hg9)
              have HA9 := hide (HA8.out.far hg9 hgb)
              clear h9 hg9 HP HJ8 HA8
              have z1 := HA9.out.box.cell 1
              have zf1 := HA9.out.box.frozen 1
              have zl := HA9.out.box.lt
              obtain ⟨bad, hbad⟩ : ∃ bad : Int, 1 + (q9 : Int) = bad := ⟨_, rfl⟩
              have hbad2 : 0 ≤ bad ∧ bad ≤ 10 := by omega
              go_upto_region 15 with fail
              generalize hwy : World.setCell w9 _ _ = wy
              have HAY := hide (show JobAt wy wb.heap.size bad v items us2 from by rw [← hwy]; exact HA9.out.setBad bad)
              have HJY := hide (HJ9.out.low (show Below wb.heap.size w9 wy from by rw [← hwy]; exact (Below.refl _ _).setCell (p := ⟨wb.heap.size, 1, none⟩) (Nat.le_refl _) _) hgb hwb HLV.out HLF.out)
              clear hwy z1 zf1 zl HA9 HJ9 hbad
              have HXK := hide (HAY.out.ow (WalkArith.wf_i64 ⟨by omega, by omega⟩))
              obtain ⟨fx, hxo, hxn⟩ := HXK.out
              obtain ⟨ia, hia, ia0, ia1, ia2⟩ := info_parts jobInfo
              have hwy : wb.heap.size < wy.heap.size := HAY.out.box.lt
              have HJA := hide (HJY.out.step ((Below.refl wy.heap.size wy).alloc (Nat.le_refl _) (.cells #[v, .int .i64 bad] 100)))
              have HXO := hide (show OwC (wy.alloc (.cells #[v, .int .i64 bad] 100)) ([CrewJob.mk items bad].flatMap CrewJob.cells) [v, .int .i64 bad] fx from by rw [List.flatMap_singleton]; exact hxo.alloc hxn.lt _)
              have HNW := hide (show New (wy.alloc (.cells #[v, .int .i64 bad] 100)) (fi ++ fx) w.heap.size from ((HJY.out.own.new).alloc _).app (hxn.alloc _) (HLF.out.mono (Nat.le_succ _)) (by omega))
              have HNO := hide (show ∀ x, jv.ownBlock = some x → x ∉ fx from fun x e => hxn.out (by have := HLV.out x e; omega))
              have HSA := hide (show w.heap.size ≤ (wy.alloc (.cells #[v, .int .i64 bad] 100)).heap.size from by rw [World.size_alloc]; omega)
              have y0 := HAY.out.box.cell 0
              have y1 := HAY.out.box.cell 1
              have yl := HAY.out.box.lt
              have hll : l.length ≤ 61 := by have := HLI.out; omega
              clear hxo hxn HXK
              go_wp2_with (first | (at_builtin; refine wpl_app rfl _ _ 47 rfl ia _ 32 Try.underlying47 hia ia0 ia1 ia2 rfl (by decide) CrewJob.cells_len rfl HJA.out.own [CrewJob.mk items bad] HXO.out HNW.out HNO.out _ 1 1 rfl rfl (SrcAt.new wy _ _ _ _) (by omega) (by decide) HSA.out ?_; intro A5 n5 c5 w11 hn5 hown5 hgb5; have HGB := hide hgb5; have HN5 := hide hown5; clear hown5 hgb5 hn5) | fail)
              go_roundw
              case rel =>
                have q1 : i + 1 ≤ n := hlt
                have q2 : (l ++ [CrewJob.mk items bad]).length = i + 1 := by rw [List.length_append, List.length_singleton, HLI.out]
                have q3 : CrewJob.bulkS (l ++ [CrewJob.mk items bad]) ≤ 3 * (i + 1) := by rw [CrewJob.bulkS_append]; have := HBK.out; simp only [CrewJob.bulkS, CrewJob.bulk]; omega
                have q5 := HJA.out.grow hlg HGB.out HN5.out
                first | exact ⟨i + 1, l ++ [⟨items, bad⟩], _, _, _, by go_num, q1, q2, q3, by omega, q5⟩ | (refine ⟨_, _, _, _, _, _, _, _, _, _, _, _, _, _, _, _, _, _, _, _, _, _, _, _, _, _, _, _, _, _, ⟨i + 1, l ++ [⟨items, bad⟩], _, _, _, ?_, q1, q2, q3, ?_, q5⟩, rfl⟩ <;> first | rfl | go_num | omega | (congr 1; simp only [wrap64]; omega)) | (refine ⟨_, _, _, _, _, _, _, _, _, _, _, _, _, _, _, _, _, _, _, _, _, _, _, _, _, _, _, _, _, _, _, ⟨i + 1, l ++ [⟨items, bad⟩], _, _, _, ?_, q1, q2, q3, ?_, q5⟩, rfl⟩ <;> first | rfl | go_num | omega | (congr 1; simp only [wrap64]; omega)) | (refine ⟨_, _, _, _, _, _, _, _, _, _, _, _, _, _, _, _, _, _, _, _, _, _, _, _, _, _, _, _, _, _, _, _, ⟨i + 1, l ++ [⟨items, bad⟩], _, _, _, ?_, q1, q2, q3, ?_, q5⟩, rfl⟩ <;> first | rfl | go_num | omega | (congr 1; simp only [wrap64]; omega)) | (refine ⟨_, _, _, _, _, _, _, _, _, _, _, _, _, _, _, _, _, _, _, _, _, _, _, _, _, _, _, _, _, _, _, _, _, ⟨i + 1, l ++ [⟨items, bad⟩], _, _, _, ?_, q1, q2, q3, ?_, q5⟩, rfl⟩ <;> first | rfl | go_num | omega | (congr 1; simp only [wrap64]; omega)) | (refine ⟨_, _, _, _, _, _, _, _, _, _, _, _, _, _, _, _, _, _, _, _, _, _, _, _, _, _, _, _, _, _, _, _, _, _, ⟨i + 1, l ++ [⟨items, bad⟩], _, _, _, ?_, q1, q2, q3, ?_, q5⟩, rfl⟩ <;> first | rfl | go_num | omega | (congr 1; simp only [wrap64]; omega)) | (refine ⟨_, _, _, _, _, _, _, _, _, _, _, _, _, _, _, _, _, _, _, _, _, _, _, _, _, _, _, _, _, _, _, _, _, _, _, ⟨i + 1, l ++ [⟨items, bad⟩], _, _, _, ?_, q1, q2, q3, ?_, q5⟩, rfl⟩ <;> first | rfl | go_num | omega | (congr 1; simp only [wrap64]; omega)) | (refine ⟨_, _, _, _, _, _, _, _, _, _, _, _, _, _, _, _, _, _, _, _, _, _, _, _, _, _, _, _, _, _, _, _, _, _, _, _, _, ⟨i + 1, l ++ [⟨items, bad⟩], _, _, _, ?_, q1, q2, q3, ?_, q5⟩, rfl⟩ <;> first | rfl | go_num | omega | (congr 1; simp only [wrap64]; omega)) | (refine ⟨_, _, _, _, _, _, _, _, _, _, _, _, _, _, _, _, _, _, _, _, _, _, _, _, _, _, _, _, _, _, _, _, _, _, _, _, _, _, ⟨i + 1, l ++ [⟨items, bad⟩], _, _, _, ?_, q1, q2, q3, ?_, q5⟩, rfl⟩ <;> first | rfl | go_num | omega | (congr 1; simp only [wrap64]; omega)) | (refine ⟨_, _, _, _, _, _, _, _, _, _, _, _, _, _, _, _, _, _, _, _, _, _, _, _, _, _, _, _, _, _, _, _, _, _, _, _, _, _, _, ⟨i + 1, l ++ [⟨items, bad⟩], _, _, _, ?_, q1, q2, q3, ?_, q5⟩, rfl⟩ <;> first | rfl | go_num | omega | (congr 1; simp only [wrap64]; omega)) | (refine ⟨_, _, _, _, _, _, _, _, _, _, _, _, _, _, _, _, _, _, _, _, _, _, _, _, _, _, _, _, _, _, _, _, _, _, _, _, _, _, _, _, ⟨i + 1, l ++ [⟨items, bad⟩], _, _, _, ?_, q1, q2, q3, ?_, q5⟩, rfl⟩ <;> first | rfl | go_num | omega | (congr 1; simp only [wrap64]; omega)) | (refine ⟨_, _, _, _, _, _, _, _, _, _, _, _, _, _, _, _, _, _, _, _, _, _, _, _, _, _, _, _, _, _, _, _, _, _, _, _, _, _, _, _, _, ⟨i + 1, l ++ [⟨items, bad⟩], _, _, _, ?_, q1, q2, q3, ?_, q5⟩, rfl⟩ <;> first | rfl | go_num | omega | (congr 1; simp only [wrap64]; omega)) | (refine ⟨_, _, _, _, _, _, _, _, _, _, _, _, _, _, _, _, _, _, _, _, _, _, _, _, _, _, _, _, _, _, _, _, _, _, _, _, ⟨i + 1, l ++ [⟨items, bad⟩], _, _, _, ?_, q1, q2, q3, ?_, q5⟩, rfl⟩ <;> first | rfl | go_num | omega | (congr 1; simp only [wrap64]; omega))
              case measure => simp [intOf]; omega
            · have r4I : ¬ ((r4 : Int) = 0) := by omega
              obtain ⟨wy, rfl⟩ : ∃ W, W = w8 := ⟨_, rfl⟩
              have HAY := HA8
              have HJY := HJ8
              clear HA8 HJ8
              have HXK := hide (HAY.out.ow (WalkArith.wf_i64 ⟨by omega, by omega⟩))
              obtain ⟨fx, hxo, hxn⟩ := HXK.out
              obtain ⟨ia, hia, ia0, ia1, ia2⟩ := info_parts jobInfo
              have hwy : wb.heap.size < wy.heap.size := HAY.out.box.lt
              have HJA := hide (HJY.out.step ((Below.refl wy.heap.size wy).alloc (Nat.le_refl _) (.cells #[v, .int .i64 0] 100)))
              have HXO := hide (show OwC (wy.alloc (.cells #[v, .int .i64 0] 100)) ([CrewJob.mk items 0].flatMap CrewJob.cells) [v, .int .i64 0] fx from by rw [List.flatMap_singleton]; exact hxo.alloc hxn.lt _)
              have HNW := hide (show New (wy.alloc (.cells #[v, .int .i64 0] 100)) (fi ++ fx) w.heap.size from ((HJY.out.own.new).alloc _).app (hxn.alloc _) (HLF.out.mono (Nat.le_succ _)) (by omega))
              have HNO := hide (show ∀ x, jv.ownBlock = some x → x ∉ fx from fun x e => hxn.out (by have := HLV.out x e; omega))
              have HSA := hide (show w.heap.size ≤ (wy.alloc (.cells #[v, .int .i64 0] 100)).heap.size from by rw [World.size_alloc]; omega)
              have y0 := HAY.out.box.cell 0
              have y1 := HAY.out.box.cell 1
              have yl := HAY.out.box.lt
              have hll : l.length ≤ 61 := by have := HLI.out; omega
              clear hxo hxn HXK
              go_wp2_with (first | (at_builtin; refine wpl_app rfl _ _ 47 rfl ia _ 32 Try.underlying47 hia ia0 ia1 ia2 rfl (by decide) CrewJob.cells_len rfl HJA.out.own [CrewJob.mk items 0] HXO.out HNW.out HNO.out _ 1 1 rfl rfl (SrcAt.new wy _ _ _ _) (by omega) (by decide) HSA.out ?_; intro A5 n5 c5 w11 hn5 hown5 hgb5; have HGB := hide hgb5; have HN5 := hide hown5; clear hown5 hgb5 hn5) | fail)
              go_roundw
              case rel =>
                have q1 : i + 1 ≤ n := hlt
                have q2 : (l ++ [CrewJob.mk items 0]).length = i + 1 := by rw [List.length_append, List.length_singleton, HLI.out]
                have q3 : CrewJob.bulkS (l ++ [CrewJob.mk items 0]) ≤ 3 * (i + 1) := by rw [CrewJob.bulkS_append]; have := HBK.out; simp only [CrewJob.bulkS, CrewJob.bulk]; omega
                have q5 := HJA.out.grow hlg HGB.out HN5.out
                first | exact ⟨i + 1, l ++ [⟨items, 0⟩], _, _, _, by go_num, q1, q2, q3, by omega, q5⟩ | (refine ⟨_, _, _, _, _, _, _, _, _, _, _, _, _, _, _, _, _, _, _, _, _, _, _, _, _, _, _, _, _, _, ⟨i + 1, l ++ [⟨items, 0⟩], _, _, _, ?_, q1, q2, q3, ?_, q5⟩, rfl⟩ <;> first | rfl | go_num | omega | (congr 1; simp only [wrap64]; omega)) | (refine ⟨_, _, _, _, _, _, _, _, _, _, _, _, _, _, _, _, _, _, _, _, _, _, _, _, _, _, _, _, _, _, _, ⟨i + 1, l ++ [⟨items, 0⟩], _, _, _, ?_, q1, q2, q3, ?_, q5⟩, rfl⟩ <;> first | rfl | go_num | omega | (congr 1; simp only [wrap64]; omega)) | (refine ⟨_, _, _, _, _, _, _, _, _, _, _, _, _, _, _, _, _, _, _, _, _, _, _, _, _, _, _, _, _, _, _, _, ⟨i + 1, l ++ [⟨items, 0⟩], _, _, _, ?_, q1, q2, q3, ?_, q5⟩, rfl⟩ <;> first | rfl | go_num | omega | (congr 1; simp only [wrap64]; omega)) | (refine ⟨_, _, _, _, _, _, _, _, _, _, _, _, _, _, _, _, _, _, _, _, _, _, _, _, _, _, _, _, _, _, _, _, _, ⟨i + 1, l ++ [⟨items, 0⟩], _, _, _, ?_, q1, q2, q3, ?_, q5⟩, rfl⟩ <;> first | rfl | go_num | omega | (congr 1; simp only [wrap64]; omega)) | (refine ⟨_, _, _, _, _, _, _, _, _, _, _, _, _, _, _, _, _, _, _, _, _, _, _, _, _, _, _, _, _, _, _, _, _, _, ⟨i + 1, l ++ [⟨items, 0⟩], _, _, _, ?_, q1, q2, q3, ?_, q5⟩, rfl⟩ <;> first | rfl | go_num | omega | (congr 1; simp only [wrap64]; omega)) | (refine ⟨_, _, _, _, _, _, _, _, _, _, _, _, _, _, _, _, _, _, _, _, _, _, _, _, _, _, _, _, _, _, _, _, _, _, _, ⟨i + 1, l ++ [⟨items, 0⟩], _, _, _, ?_, q1, q2, q3, ?_, q5⟩, rfl⟩ <;> first | rfl | go_num | omega | (congr 1; simp only [wrap64]; omega)) | (refine ⟨_, _, _, _, _, _, _, _, _, _, _, _, _, _, _, _, _, _, _, _, _, _, _, _, _, _, _, _, _, _, _, _, _, _, _, _, _, ⟨i + 1, l ++ [⟨items, 0⟩], _, _, _, ?_, q1, q2, q3, ?_, q5⟩, rfl⟩ <;> first | rfl | go_num | omega | (congr 1; simp only [wrap64]; omega)) | (refine ⟨_, _, _, _, _, _, _, _, _, _, _, _, _, _, _, _, _, _, _, _, _, _, _, _, _, _, _, _, _, _, _, _, _, _, _, _, _, _, ⟨i + 1, l ++ [⟨items, 0⟩], _, _, _, ?_, q1, q2, q3, ?_, q5⟩, rfl⟩ <;> first | rfl | go_num | omega | (congr 1; simp only [wrap64]; omega)) | (refine ⟨_, _, _, _, _, _, _, _, _, _, _, _, _, _, _, _, _, _, _, _, _, _, _, _, _, _, _, _, _, _, _, _, _, _, _, _, _, _, _, ⟨i + 1, l ++ [⟨items, 0⟩], _, _, _, ?_, q1, q2, q3, ?_, q5⟩, rfl⟩ <;> first | rfl | go_num | omega | (congr 1; simp only [wrap64]; omega)) | (refine ⟨_, _, _, _, _, _, _, _, _, _, _, _, _, _, _, _, _, _, _, _, _, _, _, _, _, _, _, _, _, _, _, _, _, _, _, _, _, _, _, _, ⟨i + 1, l ++ [⟨items, 0⟩], _, _, _, ?_, q1, q2, q3, ?_, q5⟩, rfl⟩ <;> first | rfl | go_num | omega | (congr 1; simp only [wrap64]; omega)) | (refine ⟨_, _, _, _, _, _, _, _, _, _, _, _, _, _, _, _, _, _, _, _, _, _, _, _, _, _, _, _, _, _, _, _, _, _, _, _, _, _, _, _, _, ⟨i + 1, l ++ [⟨items, 0⟩], _, _, _, ?_, q1, q2, q3, ?_, q5⟩, rfl⟩ <;> first | rfl | go_num | omega | (congr 1; simp only [wrap64]; omega)) | (refine ⟨_, _, _, _, _, _, _, _, _, _, _, _, _, _, _, _, _, _, _, _, _, _, _, _, _, _, _, _, _, _, _, _, _, _, _, _, ⟨i + 1, l ++ [⟨items, 0⟩], _, _, _, ?_, q1, q2, q3, ?_, q5⟩, rfl⟩ <;> first | rfl | go_num | omega | (congr 1; simp only [wrap64]; omega))
              case measure => simp [intOf]; omega
          · obtain ⟨m, rfl⟩ : ∃ m', m = m' + 1 := ⟨m - 1, by omega⟩
            have hm3 : m ≤ 2 := by have := HMI.out; omega
            obtain ⟨ii, hii, ii0, ii1, ii2⟩ := info_parts info_int
            have a0 := HA.out.box.cell 0
            have af0 := HA.out.box.frozen 0
            have al := HA.out.box.lt
            have hbz : wb.heap.size < wz.heap.size := al
            have HAa := hide (HA.out.alloc (.cells #[.int .i64 (100 * (i : Int) + ((m : Int) + 1))] 3))
            have HXO := hide (fun (W : World) => show OwC W ([100 * (i : Int) + ((m : Int) + 1)].flatMap intC) [.int .i64 (100 * (i : Int) + ((m : Int) + 1))] [] from ⟨[], [], ⟨rfl, WalkArith.wf_i64 ⟨by omega, by omega⟩, rfl⟩, rfl, rfl⟩)
            have HSA := hide (show wb.heap.size + 1 ≤ (wz.alloc (.cells #[.int .i64 (100 * (i : Int) + ((m : Int) + 1))] 3)).heap.size from by rw [World.size_alloc]; omega)
            clear hm0
            go_wp2_with (first | (at_builtin; refine wpl_app rfl _ _ 22 rfl ii _ 8 Try.underlying22 hii ii0 ii1 ii2 rfl (by decide) intC_len rfl HAa.out.its [100 * (i : Int) + ((m : Int) + 1)] (HXO.out _) (by exact New.nil _ _) (fun g _ hg => by cases hg) _ 1 1 rfl rfl (SrcAt.new wz _ _ _ _) (by omega) (by decide) HSA.out ?_; intro A5 n5 c5 w11 hn5 hown5 hgb5; have HGB := hide hgb5; have HN5 := hide hown5; have r5 := hgb5.row HAa.out.box (HAa.out.its.low (Nat.lt_succ_self _)); have q5 := r5.cell 0; have f5 := r5.frozen 0; have l5 := r5.lt; clear hown5 hgb5 hn5 r5) | fail)
            go_roundw
            case rel => exact ⟨m, items ++ [100 * (i : Int) + ((m : Int) + 1)], _, _, by first | rfl | (congr 1 <;> first | rfl | (simp only [wrap64]; omega)), by rw [List.length_append, List.length_singleton]; have := HMI.out; omega, HAa.out.put HGB.out HN5.out, (HBZ.out.trans (((Below.refl wb.heap.size wz).alloc (by omega) _).trans (HGB.out.toBelow (Nat.le_of_succ_le HSA.out) (fun x e => Nat.le_of_succ_le (HAa.out.its.from e))))).setCell (p := ⟨wb.heap.size, 0, none⟩) (Nat.le_refl _) _⟩
            case measure => first | (simp [intOf]; done) | (simp [intOf]; omega)
      · obtain rfl : i = n := by omega
        by_cases hi0 : i = 0
        · subst hi0
          go_wp2
          go_ret
          exact HJ.out.out (by unfold CrewJob.bulkL; have := HLI.out; have := HBK.out; omega) (by omega)
        · have hi0I : (0 : Int) < (i : Int) := by omega
          obtain ⟨b, c, hv, _, _, _⟩ := HJ.out.form (by have := HLI.out; omega)
          rw [HLI.out] at hv
          subst hv
          have HP := hide (pick_any HJ.out.rd (n := 24) (by omega) (by omega) (by omega))
          go_wp2_with fail
          refine HP.out.mono ?_
          rintro e w9 ⟨q0, rfl, hq0, h9, hg9⟩
          have HJ9 := hide (HJ.out.pick hlg h9 hg9)
          clear h9 hg9 HP HJ
          by_cases q00 : q0 = 0
          · subst q00
            obtain ⟨x1, ⟨z0, x2⟩, ⟨z1, x3⟩, x4, x5⟩ := HJ9.out.cells01 HLI.out (by omega)
            go_upto_region 18 with fail
            obtain ⟨lb, usb, fib, hlb, hkb, hjb⟩ := HJ9.out.bad1 HLI.out (by omega) hlg
            have HJA := hide hjb
            have HLB := hide hlb
            have HKB := hide (Nat.le_trans hkb HBK.out)
            clear x1 x2 x3 x4 x5 hjb hlb hkb HJ9
            generalize World.setCell w9 _ _ = wa at HJA ⊢
            have HP := hide (pick_any HJA.out.rd (n := 24) (by omega) (by omega) (by omega))
            go_wp2_with fail
            refine HP.out.mono ?_
            rintro e wb2 ⟨q1, rfl, hq1, h9, hg9⟩
            have HJB := hide (HJA.out.pick hlg h9 hg9)
            clear h9 hg9 HP HJA
            by_cases q91 : q1 = 0
            · subst q91
              have HP := hide (pick_any HJB.out.rd (n := 2) (by omega) (by omega) (by omega))
              go_wp2_with fail
              refine HP.out.mono ?_
              rintro e wc ⟨q2, rfl, hq2, h9, hg9⟩
              have HJC := hide (HJB.out.pick hlg h9 hg9)
              clear h9 hg9 HP HJB
              obtain ⟨x1, ⟨z0, x2⟩, ⟨z1, x3⟩, x4, x5⟩ := HJC.out.cells01 HLB.out (by omega)
              obtain ⟨m, hm⟩ : ∃ m : Nat, (40 : Int) + (q2 : Int) = (m : Int) := ⟨40 + q2, by omega⟩
              have hm41 : m ≤ 41 := by omega
              obtain ⟨i0, hi, hz0, hz1, hz2⟩ := info_parts info_int
              have hmk0 := run_make_rowN (P := Try.prog) 22 3 i0 _ Try.underlying22 hi hz0 .i64 .i64 m m (Nat.le_refl _) (by rw [hz2]; omega) (by omega)
              rw [hz1] at hmk0
              have hmk : ∀ u : World, (Instr.makeSlice 22 (.int .i64 (m : Int)) (.int .i64 (m : Int))).run Try.prog u = .ok (.slice (some ⟨u.heap.size, 0, none⟩) m m) (u.alloc (.cells (List.replicate m (.int .i64 0)).toArray 3)) := fun u => by
                rw [hmk0 u, ← toList_madeCells_one, Array.toArray_toList]
                simp
                rfl
              clear hi hz0 hz1 hz2 i0 hmk0
              have y2 : ∀ o : Obj, (wc.alloc o).cell? ⟨b, 0, none⟩ = some z0 := fun o => (((Below.refl wc.heap.size wc).alloc (Nat.le_refl _) o).cell x1 |>.trans x2)
              have y4 : ∀ o : Obj, (wc.alloc o).frozen? ⟨b, 0, none⟩ = false := fun o => (((Below.refl wc.heap.size wc).alloc (Nat.le_refl _) o).frozen x1 |>.trans x4)
              have y1 : ∀ o : Obj, b < (wc.alloc o).heap.size := fun o => by rw [World.size_alloc]; omega
              go_upto_region 20 with fail
              obtain ⟨lc, usc, fic, hlc, hkc, hjc⟩ := HJC.out.items1 HLB.out (by omega) hlg m (by omega)
              rw [World.setCell_alloc_past _ _ _ _ x1, List.toArray_replicate] at hjc
              generalize World.alloc (World.setCell wc _ _) _ = wd at hjc ⊢
              have HJD := hide hjc
              have HLC := hide hlc
              have HKC := hide hkc
              clear x1 x2 x3 x4 x5 y1 y2 y4 hjc hlc hkc HJC hmk
              go_wp2
              go_ret
              exact HJD.out.out (k := k) (by unfold CrewJob.bulkL; have := HLC.out; have := HKB.out; have := HKC.out; omega) (by omega)
            · have q91I : ¬ ((q1 : Int) = 0) := by omega
              go_wp2
              go_ret
              exact HJB.out.out (by unfold CrewJob.bulkL; have := HLB.out; have := HKB.out; omega) (by omega)
          · have q00I : ¬ ((q0 : Int) = 0) := by omega
            have HLB := HLI
            have HKB := HBK
            have HP := hide (pick_any HJ9.out.rd (n := 24) (by omega) (by omega) (by omega))
            go_wp2_with fail
            refine HP.out.mono ?_
            rintro e wb2 ⟨q1, rfl, hq1, h9, hg9⟩
            have HJB := hide (HJ9.out.pick hlg h9 hg9)
            clear h9 hg9 HP HJ9
            by_cases q91 : q1 = 0
            · subst q91
              have HP := hide (pick_any HJB.out.rd (n := 2) (by omega) (by omega) (by omega))
              go_wp2_with fail
              refine HP.out.mono ?_
              rintro e wc ⟨q2, rfl, hq2, h9, hg9⟩
              have HJC := hide (HJB.out.pick hlg h9 hg9)
              clear h9 hg9 HP HJB
              obtain ⟨x1, ⟨z0, x2⟩, ⟨z1, x3⟩, x4, x5⟩ := HJC.out.cells01 HLB.out (by omega)
              obtain ⟨m, hm⟩ : ∃ m : Nat, (40 : Int) + (q2 : Int) = (m : Int) := ⟨40 + q2, by omega⟩
              have hm41 : m ≤ 41 := by omega
              obtain ⟨i0, hi, hz0, hz1, hz2⟩ := info_parts info_int
              have hmk0 := run_make_rowN (P := Try.prog) 22 3 i0 _ Try.underlying22 hi hz0 .i64 .i64 m m (Nat.le_refl _) (by rw [hz2]; omega) (by omega)
              rw [hz1] at hmk0
              have hmk : ∀ u : World, (Instr.makeSlice 22 (.int .i64 (m : Int)) (.int .i64 (m : Int))).run Try.prog u = .ok (.slice (some ⟨u.heap.size, 0, none⟩) m m) (u.alloc (.cells (List.replicate m (.int .i64 0)).toArray 3)) := fun u => by
                rw [hmk0 u, ← toList_madeCells_one, Array.toArray_toList]
                simp
                rfl
              clear hi hz0 hz1 hz2 i0 hmk0
              have y2 : ∀ o : Obj, (wc.alloc o).cell? ⟨b, 0, none⟩ = some z0 := fun o => (((Below.refl wc.heap.size wc).alloc (Nat.le_refl _) o).cell x1 |>.trans x2)
              have y4 : ∀ o : Obj, (wc.alloc o).frozen? ⟨b, 0, none⟩ = false := fun o => (((Below.refl wc.heap.size wc).alloc (Nat.le_refl _) o).frozen x1 |>.trans x4)
              have y1 : ∀ o : Obj, b < (wc.alloc o).heap.size := fun o => by rw [World.size_alloc]; omega
              go_upto_region 20 with fail
              obtain ⟨lc, usc, fic, hlc, hkc, hjc⟩ := HJC.out.items1 HLB.out (by omega) hlg m (by omega)
              rw [World.setCell_alloc_past _ _ _ _ x1, List.toArray_replicate] at hjc
              generalize World.alloc (World.setCell wc _ _) _ = wd at hjc ⊢
              have HJD := hide hjc
              have HLC := hide hlc
              have HKC := hide hkc
              clear x1 x2 x3 x4 x5 y1 y2 y4 hjc hlc hkc HJC hmk
              go_wp2
              go_ret
              exact HJD.out.out (k := k) (by unfold CrewJob.bulkL; have := HLC.out; have := HKB.out; have := HKC.out; omega) (by omega)
            · have q91I : ¬ ((q1 : Int) = 0) := by omega
              go_wp2
              go_ret
              exact HJB.out.out (by unfold CrewJob.bulkL; have := HLB.out; have := HKB.out; omega) (by omega)
  · have r0I : ¬ ((r : Int) = 0) := by omega
    have hrb : ((r : Int) == 0) = false := by simpa using r0I
    obtain ⟨n, rfl⟩ : ∃ n, n = n0 := ⟨_, rfl⟩
    have hn61 : n ≤ 61 := by omega
    have HJN := HJ3
    have HP := True.intro
    clear HP
    go_wp2
    (try simp only [hrb])
    go_loopw [3, 5] (fun jv iv wr => ∃ (i : Nat) (l : List CrewJob) (us : List Value) (fi : List Nat) (k' : Nat), iv = .int .i64 (i : Int) ∧ i ≤ n ∧ l.length = i ∧ CrewJob.bulkS l ≤ 3 * i ∧ k' ≤ k + 3 + 10 * i ∧ JobsAt w wr g L k' jv l us fi) (fun _ iv _ => n - (intOf iv).toNat)
    case atStart => exact ⟨0, [], [], [], _, rfl, by omega, rfl, by simp [CrewJob.bulkS], by omega, HJN.out⟩
    case round =>
      obtain ⟨wb, rfl⟩ : ∃ W, W = wr := ⟨_, rfl⟩
      obtain ⟨jv, rfl⟩ : ∃ V, V = u3 := ⟨_, rfl⟩
      obtain ⟨i, l, us, fi, k2, rfl, hin, hli, hbk, hk2, hj⟩ := hrel
      have HJ := hide hj
      have HBK := hide hbk
      have HLI := hide hli
      clear hj hbk hli HJN
      by_cases hlt : i < n
      · have hltI : (i : Int) < (n : Int) := by omega
        have hi61 : i ≤ 60 := by omega
        have hgb : g < wb.heap.size := HJ.out.rd.lt
        have hwb : w.heap.size ≤ wb.heap.size := HJ.out.gr.size
        have HLV := hide HJ.out.own.lt
        have HLF := hide HJ.out.own.new.lt
        go_upto_region 9 with fail
        generalize hw5 : World.alloc wb _ = w5
        have hb5 : Below wb.heap.size wb w5 := by rw [← hw5]; exact (Below.refl _ _).alloc (Nat.le_refl _) _
        have HA5 := hide (show JobAt w5 wb.heap.size 0 (.slice none 0 0) [] [] from ⟨by rw [← hw5]; exact Row.new wb _ _, OwS.nil _ _ _ _ _⟩)
        have HJ5 := hide (HJ.out.step hb5)
        have HP := hide (pick_any HJ5.out.rd (n := 4) (by omega) (by omega) (by omega))
        clear hw5 hb5 HJ
        go_wp2_with fail
        refine HP.out.mono ?_
        rintro e w6 ⟨m0, rfl, hm0, h6, hg6⟩
        have HJ6 := hide (HJ5.out.pick hlg h6 hg6)
        have HA6 := hide (HA5.out.far hg6 hgb)
        clear h6 hg6 HP HJ5 HA5
        go_wp2
        go_loopw [7] (fun mv wz => ∃ (m : Nat) (items : List Int) (v : Value) (us2 : List Value), mv = .int .i64 (m : Int) ∧ items.length + m ≤ 3 ∧ JobAt wz wb.heap.size 0 v items us2 ∧ Below wb.heap.size w6 wz) (fun mv _ => (intOf mv).toNat)
        case atStart => exact ⟨m0, [], _, [], rfl, by simp; omega, HA6.out, ⟨rfl, rfl, rfl, Nat.le_refl _, fun _ _ => rfl⟩⟩
        case round =>
          obtain ⟨wz, rfl⟩ : ∃ W, W = wr := ⟨_, rfl⟩
          obtain ⟨m, items, v, us2, rfl, hmi, ha, hbz⟩ := hrel
          have HA := hide ha
          have HBZ := hide hbz
          have HMI := hide hmi
          have hil3 : items.length ≤ 3 := by omega
          clear ha hbz HA6 hmi
          by_cases hm0 : m = 0
          · subst hm0
            have HJZ := hide (HJ6.out.low HBZ.out hgb hwb HLV.out HLF.out)
            have HP := hide (pick_any HJZ.out.rd (n := 4) (by omega) (by omega) (by omega))
            go_wp2_with fail
            refine HP.out.mono ?_
            rintro e w8 ⟨r4, rfl, hr4, h8, hg8⟩
            have HJ8 := hide (HJZ.out.pick hlg h8 hg8)
            have HA8 := hide (HA.out.far hg8 hgb)
            clear h8 hg8 HP HJZ HA HJ6
            by_cases r40 : r4 = 0
            · subst r40
              have HP := hide (pick_any HJ8.out.rd (n := 9) (by omega) (by omega) (by omega))
              go_wp2_with fail
              refine HP.out.mono ?_
              rintro e w9 ⟨q9, rfl, hq9, h9, hg9⟩
              have HJ9 := hide (HJ8.out.pick hlg h9 hg9)
              have HA9 := hide (HA8.out.far hg9 hgb)
              clear h9 hg9 HP HJ8 HA8
              have z1 := HA9.out.box.cell 1
              have zf1 := HA9.out.box.frozen 1
              have zl := HA9.out.box.lt
              obtain ⟨bad, hbad⟩ : ∃ bad : Int, 1 + (q9 : Int) = bad := ⟨_, rfl⟩
              have hbad2 : 0 ≤ bad ∧ bad ≤ 10 := by omega
              go_upto_region 15 with fail
              generalize hwy : World.setCell w9 _ _ = wy
              have HAY := hide (show JobAt wy wb.heap.size bad v items us2 from by rw [← hwy]; exact HA9.out.setBad bad)
              have HJY := hide (HJ9.out.low (show Below wb.heap.size w9 wy from by rw [← hwy]; exact (Below.refl _ _).setCell (p := ⟨wb.heap.size, 1, none⟩) (Nat.le_refl _) _) hgb hwb HLV.out HLF.out)
              clear hwy z1 zf1 zl HA9 HJ9 hbad
              have HXK := hide (HAY.out.ow (WalkArith.wf_i64 ⟨by omega, by omega⟩))
              obtain ⟨fx, hxo, hxn⟩ := HXK.out
              obtain ⟨ia, hia, ia0, ia1, ia2⟩ := info_parts jobInfo
              have hwy : wb.heap.size < wy.heap.size := HAY.out.box.lt
              have HJA := hide (HJY.out.step ((Below.refl wy.heap.size wy).alloc (Nat.le_refl _) (.cells #[v, .int .i64 bad] 100)))
              have HXO := hide (show OwC (wy.alloc (.cells #[v, .int .i64 bad] 100)) ([CrewJob.mk items bad].flatMap CrewJob.cells) [v, .int .i64 bad] fx from by rw [List.flatMap_singleton]; exact hxo.alloc hxn.lt _)
              have HNW := hide (show New (wy.alloc (.cells #[v, .int .i64 bad] 100)) (fi ++ fx) w.heap.size from ((HJY.out.own.new).alloc _).app (hxn.alloc _) (HLF.out.mono (Nat.le_succ _)) (by omega))
              have HNO := hide (show ∀ x, jv.ownBlock = some x → x ∉ fx from fun x e => hxn.out (by have := HLV.out x e; omega))
              have HSA := hide (show w.heap.size ≤ (wy.alloc (.cells #[v, .int .i64 bad] 100)).heap.size from by rw [World.size_alloc]; omega)
              have y0 := HAY.out.box.cell 0
              have y1 := HAY.out.box.cell 1
              have yl := HAY.out.box.lt
              have hll : l.length ≤ 61 := by have := HLI.out; omega
              clear hxo hxn HXK
              go_wp2_with (first | (at_builtin; refine wpl_app rfl _ _ 47 rfl ia _ 32 Try.underlying47 hia ia0 ia1 ia2 rfl (by decide) CrewJob.cells_len rfl HJA.out.own [CrewJob.mk items bad] HXO.out HNW.out HNO.out _ 1 1 rfl rfl (SrcAt.new wy _ _ _ _) (by omega) (by decide) HSA.out ?_; intro A5 n5 c5 w11 hn5 hown5 hgb5; have HGB := hide hgb5; have HN5 := hide hown5; clear hown5 hgb5 hn5) | fail)
              go_roundw
              case rel =>
                have q1 : i + 1 ≤ n := hlt
                have q2 : (l ++ [CrewJob.mk items bad]).length = i + 1 := by rw [List.length_append, List.length_singleton, HLI.out]
                have q3 : CrewJob.bulkS (l ++ [CrewJob.mk items bad]) ≤ 3 * (i + 1) := by rw [CrewJob.bulkS_append]; have := HBK.out; simp only [CrewJob.bulkS, CrewJob.bulk]; omega
                have q5 := HJA.out.grow hlg HGB.out HN5.out
                first | exact ⟨i + 1, l ++ [⟨items, bad⟩], _, _, _, by go_num, q1, q2, q3, by omega, q5⟩ | (refine ⟨_, _, _, _, _, _, _, _, _, _, _, _, _, _, _, _, _, _, _, _, _, _, _, _, _, _, _, _, _, _, ⟨i + 1, l ++ [⟨items, bad⟩], _, _, _, ?_, q1, q2, q3, ?_, q5⟩, rfl⟩ <;> first | rfl | go_num | omega | (congr 1; simp only [wrap64]; omega)) | (refine ⟨_, _, _, _, _, _, _, _, _, _, _, _, _, _, _, _, _, _, _, _, _, _, _, _, _, _, _, _, _, _, _, ⟨i + 1, l ++ [⟨items, bad⟩], _, _, _, ?_, q1, q2, q3, ?_, q5⟩, rfl⟩ <;> first | rfl | go_num | omega | (congr 1; simp only [wrap64]; omega)) | (refine ⟨_, _, _, _, _, _, _, _, _, _, _, _, _, _, _, _, _, _, _, _, _, _, _, _, _, _, _, _, _, _, _, _, ⟨i + 1, l ++ [⟨items, bad⟩], _, _, _, ?_, q1, q2, q3, ?_, q5⟩, rfl⟩ <;> first | rfl | go_num | omega | (congr 1; simp only [wrap64]; omega)) | (refine ⟨_, _, _, _, _, _, _, _, _, _, _, _, _, _, _, _, _, _, _, _, _, _, _, _, _, _, _, _, _, _, _, _, _, ⟨i + 1, l ++ [⟨items, bad⟩], _, _, _, ?_, q1, q2, q3, ?_, q5⟩, rfl⟩ <;> first | rfl | go_num | omega | (congr 1; simp only [wrap64]; omega)) | (refine ⟨_, _, _, _, _, _, _, _, _, _, _, _, _, _, _, _, _, _, _, _, _, _, _, _, _, _, _, _, _, _, _, _, _, _, ⟨i + 1, l ++ [⟨items, bad⟩], _, _, _, ?_, q1, q2, q3, ?_, q5⟩, rfl⟩ <;> first | rfl | go_num | omega | (congr 1; simp only [wrap64]; omega)) | (refine ⟨_, _, _, _, _, _, _, _, _, _, _, _, _, _, _, _, _, _, _, _, _, _, _, _, _, _, _, _, _, _, _, _, _, _, _, ⟨i + 1, l ++ [⟨items, bad⟩], _, _, _, ?_, q1, q2, q3, ?_, q5⟩, rfl⟩ <;> first | rfl | go_num | omega | (congr 1; simp only [wrap64]; omega)) | (refine ⟨_, _, _, _, _, _, _, _, _, _, _, _, _, _, _, _, _, _, _, _, _, _, _, _, _, _, _, _, _, _, _, _, _, _, _, _, _, ⟨i + 1, l ++ [⟨items, bad⟩], _, _, _, ?_, q1, q2, q3, ?_, q5⟩, rfl⟩ <;> first | rfl | go_num | omega | (congr 1; simp only [wrap64]; omega)) | (refine ⟨_, _, _, _, _, _, _, _, _, _, _, _, _, _, _, _, _, _, _, _, _, _, _, _, _, _, _, _, _, _, _, _, _, _, _, _, _, _, ⟨i + 1, l ++ [⟨items, bad⟩], _, _, _, ?_, q1, q2, q3, ?_, q5⟩, rfl⟩ <;> first | rfl | go_num | omega | (congr 1; simp only [wrap64]; omega)) | (refine ⟨_, _, _, _, _, _, _, _, _, _, _, _, _, _, _, _, _, _, _, _, _, _, _, _, _, _, _, _, _, _, _, _, _, _, _, _, _, _, _, ⟨i + 1, l ++ [⟨items, bad⟩], _, _, _, ?_, q1, q2, q3, ?_, q5⟩, rfl⟩ <;> first | rfl | go_num | omega | (congr 1; simp only [wrap64]; omega)) | (refine ⟨_, _, _, _, _, _, _, _, _, _, _, _, _, _, _, _, _, _, _, _, _, _, _, _, _, _, _, _, _, _, _, _, _, _, _, _, _, _, _, _, ⟨i + 1, l ++ [⟨items, bad⟩], _, _, _, ?_, q1, q2, q3, ?_, q5⟩, rfl⟩ <;> first | rfl | go_num | omega | (congr 1; simp only [wrap64]; omega)) | (refine ⟨_, _, _, _, _, _, _, _, _, _, _, _, _, _, _, _, _, _, _, _, _, _, _, _, _, _, _, _, _, _, _, _, _, _, _, _, _, _, _, _, _, ⟨i + 1, l ++ [⟨items, bad⟩], _, _, _, ?_, q1, q2, q3, ?_, q5⟩, rfl⟩ <;> first | rfl | go_num | omega | (congr 1; simp only [wrap64]; omega)) | (refine ⟨_, _, _, _, _, _, _, _, _, _, _, _, _, _, _, _, _, _, _, _, _, _, _, _, _, _, _, _, _, _, _, _, _, _, _, _, ⟨i + 1, l ++ [⟨items, bad⟩], _, _, _, ?_, q1, q2, q3, ?_, q5⟩, rfl⟩ <;> first | rfl | go_num | omega | (congr 1; simp only [wrap64]; omega))
              case measure => simp [intOf]; omega
            · have r4I : ¬ ((r4 : Int) = 0) := by omega
              obtain ⟨wy, rfl⟩ : ∃ W, W = w8 := ⟨_, rfl⟩
              have HAY := HA8
              have HJY := HJ8
              clear HA8 HJ8
              have HXK := hide (HAY.out.ow (WalkArith.wf_i64 ⟨by omega, by omega⟩))
              obtain ⟨fx, hxo, hxn⟩ := HXK.out
              obtain ⟨ia, hia, ia0, ia1, ia2⟩ := info_parts jobInfo
              have hwy : wb.heap.size < wy.heap.size := HAY.out.box.lt
              have HJA := hide (HJY.out.step ((Below.refl wy.heap.size wy).alloc (Nat.le_refl _) (.cells #[v, .int .i64 0] 100)))
              have HXO := hide (show OwC (wy.alloc (.cells #[v, .int .i64 0] 100)) ([CrewJob.mk items 0].flatMap CrewJob.cells) [v, .int .i64 0] fx from by rw [List.flatMap_singleton]; exact hxo.alloc hxn.lt _)
              have HNW := hide (show New (wy.alloc (.cells #[v, .int .i64 0] 100)) (fi ++ fx) w.heap.size from ((HJY.out.own.new).alloc _).app (hxn.alloc _) (HLF.out.mono (Nat.le_succ _)) (by omega))
              have HNO := hide (show ∀ x, jv.ownBlock = some x → x ∉ fx from fun x e => hxn.out (by have := HLV.out x e; omega))
              have HSA := hide (show w.heap.size ≤ (wy.alloc (.cells #[v, .int .i64 0] 100)).heap.size from by rw [World.size_alloc]; omega)
              have y0 := HAY.out.box.cell 0
              have y1 := HAY.out.box.cell 1
              have yl := HAY.out.box.lt
              have hll : l.length ≤ 61 := by have := HLI.out; omega
              clear hxo hxn HXK
              go_wp2_with (first | (at_builtin; refine wpl_app rfl _ _ 47 rfl ia _ 32 Try.underlying47 hia ia0 ia1 ia2 rfl (by decide) CrewJob.cells_len rfl HJA.out.own [CrewJob.mk items 0] HXO.out HNW.out HNO.out _ 1 1 rfl rfl (SrcAt.new wy _ _ _ _) (by omega) (by decide) HSA.out ?_; intro A5 n5 c5 w11 hn5 hown5 hgb5; have HGB := hide hgb5; have HN5 := hide hown5; clear hown5 hgb5 hn5) | fail)
              go_roundw
              case rel =>
                have q1 : i + 1 ≤ n := hlt
                have q2 : (l ++ [CrewJob.mk items 0]).length = i + 1 := by rw [List.length_append, List.length_singleton, HLI.out]
                have q3 : CrewJob.bulkS (l ++ [CrewJob.mk items 0]) ≤ 3 * (i + 1) := by rw [CrewJob.bulkS_append]; have := HBK.out; simp only [CrewJob.bulkS, CrewJob.bulk]; omega
                have q5 := HJA.out.grow hlg HGB.out HN5.out
                first | exact ⟨i + 1, l ++ [⟨items, 0⟩], _, _, _, by go_num, q1, q2, q3, by omega, q5⟩ | (refine ⟨_, _, _, _, _, _, _, _, _, _, _, _, _, _, _, _, _, _, _, _, _, _, _, _, _, _, _, _, _, _, ⟨i + 1, l ++ [⟨items, 0⟩], _, _, _, ?_, q1, q2, q3, ?_, q5⟩, rfl⟩ <;> first | rfl | go_num | omega | (congr 1; simp only [wrap64]; omega)) | (refine ⟨_, _, _, _, _, _, _, _, _, _, _, _, _, _, _, _, _, _, _, _, _, _, _, _, _, _, _, _, _, _, _, ⟨i + 1, l ++ [⟨items, 0⟩], _, _, _, ?_, q1, q2, q3, ?_, q5⟩, rfl⟩ <;> first | rfl | go_num | omega | (congr 1; simp only [wrap64]; omega)) | (refine ⟨_, _, _, _, _, _, _, _, _, _, _, _, _, _, _, _, _, _, _, _, _, _, _, _, _, _, _, _, _, _, _, _, ⟨i + 1, l ++ [⟨items, 0⟩], _, _, _, ?_, q1, q2, q3, ?_, q5⟩, rfl⟩ <;> first | rfl | go_num | omega | (congr 1; simp only [wrap64]; omega)) | (refine ⟨_, _, _, _, _, _, _, _, _, _, _, _, _, _, _, _, _, _, _, _, _, _, _, _, _, _, _, _, _, _, _, _, _, ⟨i + 1, l ++ [⟨items, 0⟩], _, _, _, ?_, q1, q2, q3, ?_, q5⟩, rfl⟩ <;> first | rfl | go_num | omega | (congr 1; simp only [wrap64]; omega)) | (refine ⟨_, _, _, _, _, _, _, _, _, _, _, _, _, _, _, _, _, _, _, _, _, _, _, _, _, _, _, _, _, _, _, _, _, _, ⟨i + 1, l ++ [⟨items, 0⟩], _, _, _, ?_, q1, q2, q3, ?_, q5⟩, rfl⟩ <;> first | rfl | go_num | omega | (congr 1; simp only [wrap64]; omega)) | (refine ⟨_, _, _, _, _, _, _, _, _, _, _, _, _, _, _, _, _, _, _, _, _, _, _, _, _, _, _, _, _, _, _, _, _, _, _, ⟨i + 1, l ++ [⟨items, 0⟩], _, _, _, ?_, q1, q2, q3, ?_, q5⟩, rfl⟩ <;> first | rfl | go_num | omega | (congr 1; simp only [wrap64]; omega)) | (refine ⟨_, _, _, _, _, _, _, _, _, _, _, _, _, _, _, _, _, _, _, _, _, _, _, _, _, _, _, _, _, _, _, _, _, _, _, _, _, ⟨i + 1, l ++ [⟨items, 0⟩], _, _, _, ?_, q1, q2, q3, ?_, q5⟩, rfl⟩ <;> first | rfl | go_num | omega | (congr 1; simp only [wrap64]; omega)) | (refine ⟨_, _, _, _, _, _, _, _, _, _, _, _, _, _, _, _, _, _, _, _, _, _, _, _, _, _, _, _, _, _, _, _, _, _, _, _, _, _, ⟨i + 1, l ++ [⟨items, 0⟩], _, _, _, ?_, q1, q2, q3, ?_, q5⟩, rfl⟩ <;> first | rfl | go_num | omega | (congr 1; simp only [wrap64]; omega)) | (refine ⟨_, _, _, _, _, _, _, _, _, _, _, _, _, _, _, _, _, _, _, _, _, _, _, _, _, _, _, _, _, _, _, _, _, _, _, _, _, _, _, ⟨i + 1, l ++ [⟨items, 0⟩], _, _, _, ?_, q1, q2, q3, ?_, q5⟩, rfl⟩ <;> first | rfl | go_num | omega | (congr 1; simp only [wrap64]; omega)) | (refine ⟨_, _, _, _, _, _, _, _, _, _, _, _, _, _, _, _, _, _, _, _, _, _, _, _, _, _, _, _, _, _, _, _, _, _, _, _, _, _, _, _, ⟨i + 1, l ++ [⟨items, 0⟩], _, _, _, ?_, q1, q2, q3, ?_, q5⟩, rfl⟩ <;> first | rfl | go_num | omega | (congr 1; simp only [wrap64]; omega)) | (refine ⟨_, _, _, _, _, _, _, _, _, _, _, _, _, _, _, _, _, _, _, _, _, _, _, _, _, _, _, _, _, _, _, _, _, _, _, _, _, _, _, _, _, ⟨i + 1, l ++ [⟨items, 0⟩], _, _, _, ?_, q1, q2, q3, ?_, q5⟩, rfl⟩ <;> first | rfl | go_num | omega | (congr 1; simp only [wrap64]; omega)) | (refine ⟨_, _, _, _, _, _, _, _, _, _, _, _, _, _, _, _, _, _, _, _, _, _, _, _, _, _, _, _, _, _, _, _, _, _, _, _, ⟨i + 1, l ++ [⟨items, 0⟩], _, _, _, ?_, q1, q2, q3, ?_, q5⟩, rfl⟩ <;> first | rfl | go_num | omega | (congr 1; simp only [wrap64]; omega))
              case measure => simp [intOf]; omega
          · obtain ⟨m, rfl⟩ : ∃ m', m = m' + 1 := ⟨m - 1, by omega⟩
            have hm3 : m ≤ 2 := by have := HMI.out; omega
            obtain ⟨ii, hii, ii0, ii1, ii2⟩ := info_parts info_int
            have a0 := HA.out.box.cell 0
            have af0 := HA.out.box.frozen 0
            have al := HA.out.box.lt
            have hbz : wb.heap.size < wz.heap.size := al
            have HAa := hide (HA.out.alloc (.cells #[.int .i64 (100 * (i : Int) + ((m : Int) + 1))] 3))
            have HXO := hide (fun (W : World) => show OwC W ([100 * (i : Int) + ((m : Int) + 1)].flatMap intC) [.int .i64 (100 * (i : Int) + ((m : Int) + 1))] [] from ⟨[], [], ⟨rfl, WalkArith.wf_i64 ⟨by omega, by omega⟩, rfl⟩, rfl, rfl⟩)
            have HSA := hide (show wb.heap.size + 1 ≤ (wz.alloc (.cells #[.int .i64 (100 * (i : Int) + ((m : Int) + 1))] 3)).heap.size from by rw [World.size_alloc]; omega)
            clear hm0
            go_wp2_with (first | (at_builtin; refine wpl_app rfl _ _ 22 rfl ii _ 8 Try.underlying22 hii ii0 ii1 ii2 rfl (by decide) intC_len rfl HAa.out.its [100 * (i : Int) + ((m : Int) + 1)] (HXO.out _) (by exact New.nil _ _) (fun g _ hg => by cases hg) _ 1 1 rfl rfl (SrcAt.new wz _ _ _ _) (by omega) (by decide) HSA.out ?_; intro A5 n5 c5 w11 hn5 hown5 hgb5; have HGB := hide hgb5; have HN5 := hide hown5; have r5 := hgb5.row HAa.out.box (HAa.out.its.low (Nat.lt_succ_self _)); have q5 := r5.cell 0; have f5 := r5.frozen 0; have l5 := r5.lt; clear hown5 hgb5 hn5 r5) | fail)
            go_roundw
            case rel => exact ⟨m, items ++ [100 * (i : Int) + ((m : Int) + 1)], _, _, by first | rfl | (congr 1 <;> first | rfl | (simp only [wrap64]; omega)), by rw [List.length_append, List.length_singleton]; have := HMI.out; omega, HAa.out.put HGB.out HN5.out, (HBZ.out.trans (((Below.refl wb.heap.size wz).alloc (by omega) _).trans (HGB.out.toBelow (Nat.le_of_succ_le HSA.out) (fun x e => Nat.le_of_succ_le (HAa.out.its.from e))))).setCell (p := ⟨wb.heap.size, 0, none⟩) (Nat.le_refl _) _⟩
            case measure => first | (simp [intOf]; done) | (simp [intOf]; omega)
      · obtain rfl : i = n := by omega
        by_cases hi0 : i = 0
        · subst hi0
          go_wp2
          go_ret
          exact HJ.out.out (by unfold CrewJob.bulkL; have := HLI.out; have := HBK.out; omega) (by omega)
        · have hi0I : (0 : Int) < (i : Int) := by omega
          obtain ⟨b, c, hv, _, _, _⟩ := HJ.out.form (by have := HLI.out; omega)
          rw [HLI.out] at hv
          subst hv
          have HP := hide (pick_any HJ.out.rd (n := 24) (by omega) (by omega) (by omega))
          go_wp2_with fail
          refine HP.out.mono ?_
          rintro e w9 ⟨q0, rfl, hq0, h9, hg9⟩
          have HJ9 := hide (HJ.out.pick hlg h9 hg9)
          clear h9 hg9 HP HJ
          by_cases q00 : q0 = 0
          · subst q00
            obtain ⟨x1, ⟨z0, x2⟩, ⟨z1, x3⟩, x4, x5⟩ := HJ9.out.cells01 HLI.out (by omega)
            go_upto_region 18 with fail
            obtain ⟨lb, usb, fib, hlb, hkb, hjb⟩ := HJ9.out.bad1 HLI.out (by omega) hlg
            have HJA := hide hjb
            have HLB := hide hlb
            have HKB := hide (Nat.le_trans hkb HBK.out)
            clear x1 x2 x3 x4 x5 hjb hlb hkb HJ9
            generalize World.setCell w9 _ _ = wa at HJA ⊢
            have HP := hide (pick_any HJA.out.rd (n := 24) (by omega) (by omega) (by omega))
            go_wp2_with fail
            refine HP.out.mono ?_
            rintro e wb2 ⟨q1, rfl, hq1, h9, hg9⟩
            have HJB := hide (HJA.out.pick hlg h9 hg9)
            clear h9 hg9 HP HJA
            by_cases q91 : q1 = 0
            · subst q91
              have HP := hide (pick_any HJB.out.rd (n := 2) (by omega) (by omega) (by omega))
              go_wp2_with fail
              refine HP.out.mono ?_
              rintro e wc ⟨q2, rfl, hq2, h9, hg9⟩
              have HJC := hide (HJB.out.pick hlg h9 hg9)
              clear h9 hg9 HP HJB
              obtain ⟨x1, ⟨z0, x2⟩, ⟨z1, x3⟩, x4, x5⟩ := HJC.out.cells01 HLB.out (by omega)
              obtain ⟨m, hm⟩ : ∃ m : Nat, (40 : Int) + (q2 : Int) = (m : Int) := ⟨40 + q2, by omega⟩
              have hm41 : m ≤ 41 := by omega
              obtain ⟨i0, hi, hz0, hz1, hz2⟩ := info_parts info_int
              have hmk0 := run_make_rowN (P := Try.prog) 22 3 i0 _ Try.underlying22 hi hz0 .i64 .i64 m m (Nat.le_refl _) (by rw [hz2]; omega) (by omega)
              rw [hz1] at hmk0
              have hmk : ∀ u : World, (Instr.makeSlice 22 (.int .i64 (m : Int)) (.int .i64 (m : Int))).run Try.prog u = .ok (.slice (some ⟨u.heap.size, 0, none⟩) m m) (u.alloc (.cells (List.replicate m (.int .i64 0)).toArray 3)) := fun u => by
                rw [hmk0 u, ← toList_madeCells_one, Array.toArray_toList]
                simp
                rfl
              clear hi hz0 hz1 hz2 i0 hmk0
              have y2 : ∀ o : Obj, (wc.alloc o).cell? ⟨b, 0, none⟩ = some z0 := fun o => (((Below.refl wc.heap.size wc).alloc (Nat.le_refl _) o).cell x1 |>.trans x2)
              have y4 : ∀ o : Obj, (wc.alloc o).frozen? ⟨b, 0, none⟩ = false := fun o => (((Below.refl wc.heap.size wc).alloc (Nat.le_refl _) o).frozen x1 |>.trans x4)
              have y1 : ∀ o : Obj, b < (wc.alloc o).heap.size := fun o => by rw [World.size_alloc]; omega
              go_upto_region 20 with fail
              obtain ⟨lc, usc, fic, hlc, hkc, hjc⟩ := HJC.out.items1 HLB.out (by omega) hlg m (by omega)
              rw [World.setCell_alloc_past _ _ _ _ x1, List.toArray_replicate] at hjc
              generalize World.alloc (World.setCell wc _ _) _ = wd at hjc ⊢
              have HJD := hide hjc
              have HLC := hide hlc
              have HKC := hide hkc
              clear x1 x2 x3 x4 x5 y1 y2 y4 hjc hlc hkc HJC hmk
              go_wp2
              go_ret
              exact HJD.out.out (k := k) (by unfold CrewJob.bulkL; have := HLC.out; have := HKB.out; have := HKC.out; omega) (by omega)
            · have q91I : ¬ ((q1 : Int) = 0) := by omega
              go_wp2
              go_ret
              exact HJB.out.out (by unfold CrewJob.bulkL; have := HLB.out; have := HKB.out; omega) (by omega)
          · have q00I : ¬ ((q0 : Int) = 0) := by omega
            have HLB := HLI
            have HKB := HBK
            have HP := hide (pick_any HJ9.out.rd (n := 24) (by omega) (by omega) (by omega))
            go_wp2_with fail
            refine HP.out.mono ?_
            rintro e wb2 ⟨q1, rfl, hq1, h9, hg9⟩
            have HJB := hide (HJ9.out.pick hlg h9 hg9)
            clear h9 hg9 HP HJ9
            by_cases q91 : q1 = 0
            · subst q91
              have HP := hide (pick_any HJB.out.rd (n := 2) (by omega) (by omega) (by omega))
              go_wp2_with fail
              refine HP.out.mono ?_
              rintro e wc ⟨q2, rfl, hq2, h9, hg9⟩
              have HJC := hide (HJB.out.pick hlg h9 hg9)
              clear h9 hg9 HP HJB
              obtain ⟨x1, ⟨z0, x2⟩, ⟨z1, x3⟩, x4, x5⟩ := HJC.out.cells01 HLB.out (by omega)
              obtain ⟨m, hm⟩ : ∃ m : Nat, (40 : Int) + (q2 : Int) = (m : Int) := ⟨40 + q2, by omega⟩
              have hm41 : m ≤ 41 := by omega
              obtain ⟨i0, hi, hz0, hz1, hz2⟩ := info_parts info_int
              have hmk0 := run_make_rowN (P := Try.prog) 22 3 i0 _ Try.underlying22 hi hz0 .i64 .i64 m m (Nat.le_refl _) (by rw [hz2]; omega) (by omega)
              rw [hz1] at hmk0
              have hmk : ∀ u : World, (Instr.makeSlice 22 (.int .i64 (m : Int)) (.int .i64 (m : Int))).run Try.prog u = .ok (.slice (some ⟨u.heap.size, 0, none⟩) m m) (u.alloc (.cells (List.replicate m (.int .i64 0)).toArray 3)) := fun u => by
                rw [hmk0 u, ← toList_madeCells_one, Array.toArray_toList]
                simp
                rfl
              clear hi hz0 hz1 hz2 i0 hmk0
              have y2 : ∀ o : Obj, (wc.alloc o).cell? ⟨b, 0, none⟩ = some z0 := fun o => (((Below.refl wc.heap.size wc).alloc (Nat.le_refl _) o).cell x1 |>.trans x2)
              have y4 : ∀ o : Obj, (wc.alloc o).frozen? ⟨b, 0, none⟩ = false := fun o => (((Below.refl wc.heap.size wc).alloc (Nat.le_refl _) o).frozen x1 |>.trans x4)
              have y1 : ∀ o : Obj, b < (wc.alloc o).heap.size := fun o => by rw [World.size_alloc]; omega
              go_upto_region 20 with fail
              obtain ⟨lc, usc, fic, hlc, hkc, hjc⟩ := HJC.out.items1 HLB.out (by omega) hlg m (by omega)
              rw [World.setCell_alloc_past _ _ _ _ x1, List.toArray_replicate] at hjc
              generalize World.alloc (World.setCell wc _ _) _ = wd at hjc ⊢
              have HJD := hide hjc
              have HLC := hide hlc
              have HKC := hide hkc
              clear x1 x2 x3 x4 x5 y1 y2 y4 hjc hlc hkc HJC hmk
              go_wp2
              go_ret
              exact HJD.out.out (k := k) (by unfold CrewJob.bulkL; have := HLC.out; have := HKB.out; have := HKC.out; omega) (by omega)
            · have q91I : ¬ ((q1 : Int) = 0) := by omega
              go_wp2
              go_ret
              exact HJB.out.out (by unfold CrewJob.bulkL; have := HLB.out; have := HKB.out; omega) (by omega)
end Go.Proofs.Ytpkjjfnfolbcoaa
