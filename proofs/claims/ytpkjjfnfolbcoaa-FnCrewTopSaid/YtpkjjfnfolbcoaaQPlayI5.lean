/-
  A world changed in place: the program: shut, cancel, first, moveReader. A way of a worker, done in place: the program. A way of the keeper, done in place: the program. A move, done in place: the program. The play of a crew: the program.
-/
import Derived.Deep.RegionLaw
import Derived.Deep.RegionWith
import Derived.Test.YtpkjjfnfolbcoaaQPlayS2
import Derived.Test.YtpkjjfnfolbcoaaQPlayS4
import Derived.Test.YtpkjjfnfolbcoaaQPlayT
import Derived.Test.YtpkjjfnfolbcoaaQCrewI1
import Derived.Test.YtpkjjfnfolbcoaaQShelf
import Derived.Test.YtpkjjfnfolbcoaaQTriI
import Derived.Test.YtpkjjfnfolbcoaaQStartX
import Derived.Test.YtpkjjfnfolbcoaaQMovesI0
set_option linter.unusedVariables false
set_option linter.unusedSimpArgs false
namespace Go.Proofs.Ytpkjjfnfolbcoaa
open Go.ChangeShapes Go.WideShapes Go.ChangeAt Go.RowKit

def MvOut (w0 : World) (b B : Nat) (y : CrewWorld) (e : Ending) (W' : World) : Prop := e = .returned (.tuple #[]) ∧ ∃ v, Wz w0 W' b B [] id y v
theorem ints_all' {w : World} {l : List Int} {g off n c : Nat} {fp : List Nat} (h : Ow w (.s 1 l.length (l.flatMap intC)) (.slice (some ⟨g, off, none⟩) n c) fp) :
    ∀ j, j < l.length → w.cell? ⟨g, off + j, none⟩ = some (.int .i64 (l.getD j 0)) := fun j hj => by
  obtain ⟨g', off', e, _, hc, _⟩ := ints_at h hj
  injection e with e
  injection e with e1 e2
  subst e1 e2
  rw [hc, List.getD_eq_getElem?_getD, List.getElem?_eq_getElem hj]
  rfl
theorem ints_wf {w : World} {l : List Int} {A : Option Addr} {n c : Nat} {fp : List Nat} (h : Ow w (.s 1 l.length (l.flatMap intC)) (.slice A n c) fp) : ∀ y ∈ l, (Lit.int .i64 y).wf = true := fun y hy => by
  obtain ⟨i, hi, rfl⟩ := List.getElem_of_mem hy
  obtain ⟨_, _, _, _, _, hw⟩ := ints_at h hi
  exact hw
theorem cloneInt_any (l : List Int) (A : Option Addr) (n c : Nat) (fp : List Nat) (w : World) (h : Ow w (.s 1 l.length (l.flatMap intC)) (.slice A n c) fp) (hb : l.length ≤ 1048576) :
    Calls Try.prog 165 #[.slice A n c] w fun e w' => ∃ v', e = .returned v' ∧ OwS w' w.heap.size 3 1 intC v' l (l.map (Value.int .i64)) [] ∧ Below w.heap.size w w' := by
  obtain ⟨rfl, hc, hm⟩ := h.nlen
  have hwf := ints_wf h
  have hcl := ints_ow l hwf
  by_cases h0 : l.length = 0
  · have e1 : l = [] := List.eq_nil_of_length_eq_zero h0
    subst e1
    cases A with
    | none =>
      refine (Try.slices_Clone_int_nil 0 c w).mono ?_
      rintro e w' ⟨rfl, rfl⟩
      exact ⟨_, rfl, OwS.nil _ _ _ _ _, Below.refl _ _⟩
    | some a =>
      refine (Try.slices_Clone_int_zero a c w).mono ?_
      rintro e w' ⟨v', rfl, ho, _, hb⟩
      exact ⟨_, rfl, ⟨ho, hcl _, New.nil _ _, fun g _ => by simp⟩, hb⟩
  · obtain ⟨g, off, rfl, _, _, _⟩ := ints_at h (i := 0) (by omega)
    refine (Try.slices_Clone_int g off l.length c l w (Nat.le_refl _) (by omega) (ints_all' h)).mono ?_
    rintro e w' ⟨v', rfl, ho, _, hb⟩
    rw [List.take_length] at ho
    exact ⟨_, rfl, ⟨ho, hcl _, New.nil _ _, fun g _ => by simp⟩, hb⟩
set_option maxRecDepth 100000 in
set_option maxHeartbeats 4000000 in
theorem shut_any (w0 W : World) (b B : Nat) (x : CrewWorld) (v : V7) (h : Wz w0 W b B [] id x v) (k2 : 0 < x.hands.length) (k4 : 0 < x.ring.length) (s7 : 3 < x.shut.length) (hop : 0 ≤ x.ops ∧ x.ops ≤ 20000) (i : Nat) (hi : i < x.shut.length) :
    Calls Try.prog 131 #[.pointer (some ⟨b, 0, none⟩), .int .i64 (i : Int)] W (MvOut w0 b B { x with shut := x.shut.set i 1, ops := x.ops + 1 }) := by
  obtain ⟨vq, vh, vr, vg, vo, vt, vs⟩ := v
  obtain ⟨A1, c1, e1⟩ := h.ws.q.form
  change vq = _ at e1
  subst e1
  obtain ⟨g2, c2, e2, b2, l2, -⟩ := h.ws.h.at0 (by show 0 < x.hands.length; omega)
  change vh = _ at e2
  subst e2
  obtain ⟨A3, c3, e3⟩ := h.ws.r.form
  change vr = _ at e3
  subst e3
  obtain ⟨g4, c4, e4, b4, l4, -⟩ := h.ws.g.at0 (by show 0 < x.ring.length; omega)
  change vg = _ at e4
  subst e4
  obtain ⟨A5, c5, e5⟩ := h.ws.o.form
  change vo = _ at e5
  subst e5
  obtain ⟨A6, c6, e6⟩ := h.ws.t.form
  change vt = _ at e6
  subst e6
  obtain ⟨g7, c7, e7, b7, l7, -⟩ := h.ws.s.at0 (by show 0 < x.shut.length; omega)
  change vs = _ at e7
  subst e7
  have H := hide h
  clear h
  have x16 : W.cell? ⟨b, 16, none⟩ = some (.slice (some ⟨g7, 0, none⟩) x.shut.length c7) := H.out.box.cell 16
  have x17 : W.cell? ⟨b, 17, none⟩ = some (.int .i64 x.ops) := H.out.box.cell 17
  have xf17 : W.frozen? ⟨b, 17, none⟩ = false := H.out.box.frozen 17
  have xl : b < W.heap.size := H.out.lt
  have hg7b : g7 ≠ b := fun e => H.out.free (.slice (some ⟨g7, 0, none⟩) x.shut.length c7) (by simp [V7.list]) (congrArg some e)
  have hg7l : g7 < W.heap.size := (H.out.ws.s.lt g7 rfl).2
  have z7_0 : W.cell? ⟨g7, i, none⟩ = some (.int .i64 (x.shut[i]'(by omega))) := (H.out.ws.s.cell i (by omega)).1
  have zf7_0 : W.frozen? ⟨g7, i, none⟩ = false := H.out.ws.s.froz (by omega) i
  have hiI : (i : Int) < (x.shut.length : Int) := by omega
  have hi0 : (0 : Int) ≤ (i : Int) := by omega
  obtain ⟨wv0, wu0⟩ := wk (x.ops + 1) (by omega) (by omega)
  go_enter Try.func131, Try.ntmps131
  go_wp2
  go_end0
  exact ⟨rfl, _, (H.out.int_s rfl i hi 1 (by decide)).set_ops (x.ops + 1)⟩
set_option maxRecDepth 100000 in
set_option maxHeartbeats 4000000 in
theorem cancel_any (w0 W : World) (b B : Nat) (x : CrewWorld) (v : V7) (h : Wz w0 W b B [] id x v) (hok : x.ok) : Calls Try.prog 79 #[.pointer (some ⟨b, 0, none⟩)] W (MvOut w0 b B x.cut) := by
  obtain ⟨s2, s4, s7, -, -⟩ := ok_some hok
  obtain ⟨k0n, k1n, k2n, k3n, k4n, k5n, k6n⟩ := ok_nums hok
  have HS := hide (shut_any w0 W b B x v h s2 s4 s7 (by omega) 3 s7)
  have hbl := h.lt
  clear hok
  go_enter Try.func79, Try.ntmps79
  go_upto_region 1 with (first | (go_at_call 131; refine HS.out.mono ?_; rintro e W1 ⟨rfl, v1, h1⟩) | fail)
  have H1 := hide h1
  have y13 : W1.cell? ⟨b, 13, none⟩ = some (.int .i64 x.user) := H1.out.box.cell 13
  have yf13 : W1.frozen? ⟨b, 13, none⟩ = false := H1.out.box.frozen 13
  have yl : b < W1.heap.size := H1.out.lt
  clear h1
  go_wp2
  go_end0
  exact ⟨rfl, _, H1.out.set_user 1⟩
set_option maxRecDepth 100000 in
set_option maxHeartbeats 4000000 in
theorem first_q (w0 W : World) (b B : Nat) (x : CrewWorld) (v : V7) (h : Wz w0 W b B [] id x v) (hq : 0 < x.queue.length) (hb8 : x.queue.length ≤ 1048576) : Calls Try.prog 138 #[.pointer (some ⟨b, 5, none⟩)] W (fun e W' => e = .returned (.int .i64 (x.queue[0]?.getD 0)) ∧ Below B W W' ∧ (∀ a o u, W.cell? ⟨a, o, none⟩ = some u → a ≠ b → W'.cell? ⟨a, o, none⟩ = some u) ∧ ∃ (A' : Option Addr) (d' : Nat), Wz w0 W' b B [] id { x with queue := x.queue.drop 1 } { v with q := .slice A' (x.queue.length - 1) d' }) := by
  obtain ⟨g, c', e', bq, lq, -⟩ := h.ws.q.at0 hq
  obtain ⟨vq, vh, vr, vg, vo, vt, vs⟩ := v
  change vq = _ at e'
  subst e'
  have qc : W.cell? ⟨g, 0, none⟩ = some (.int .i64 (x.queue[0]?.getD 0)) := by rw [List.getElem?_eq_getElem hq]; exact (h.ws.q.cell 0 hq).1
  generalize hjj : x.queue[0]?.getD 0 = j at qc ⊢
  clear hjj
  have hqI : (0 : Int) < (x.queue.length : Int) := by omega
  have hqI1 : (1 : Int) ≤ (x.queue.length : Int) := by omega
  have hqe : ¬ (x.queue = []) := fun e => by rw [e] at hq; exact Nat.lt_irrefl _ hq
  have hqc : x.queue.length ≤ c' := by
    obtain ⟨fp, ho, -, -⟩ := h.ws.q.ow
    exact ho.nlen.2.1
  have hqcI : (x.queue.length : Int) ≤ (c' : Int) := by omega
  have x5 : W.cell? ⟨b, 5, none⟩ = some (.slice (some ⟨g, 0, none⟩) x.queue.length c') := h.box.cell 5
  have hT := h.ws.q.tail hq
  have H := hide h
  have xl := h.lt
  clear h
  by_cases hc : c' = 1
  · subst hc
    have hcI : ((1 : Nat) : Int) = 1 := rfl
    obtain ⟨fq, ho⟩ : ∃ fq, Ow W (.s 1 (x.queue.drop 1).length ((x.queue.drop 1).flatMap intC)) (.slice (some ⟨g, 0, none⟩) 0 0) fq := by
      rcases hT with ⟨_, _, ho⟩ | ⟨h1, _⟩
      · exact ⟨[], ho _ _ (by unfold maxLen; omega)⟩
      · exact absurd rfl h1
    have hz1 : x.queue.length - 1 = 0 := by omega
    have HCL := hide (cloneInt_any _ _ _ _ fq W ho (by rw [List.length_drop]; omega))
    have HXB := hide (fun (W' : World) (hb : Below W.heap.size W W') => (show W'.cell? ⟨b, 5, none⟩ = some (.slice (some ⟨g, 0, none⟩) x.queue.length 1) ∧ W'.frozen? ⟨b, 5, none⟩ = false ∧ b < W'.heap.size from ⟨(H.out.box.below hb xl).cell 5, (H.out.box.below hb xl).frozen 5, Nat.lt_of_lt_of_le xl hb.size⟩))
    clear ho hT
    go_enter Try.func138, Try.ntmps138
    go_wp2_with (first | (go_at_call 165; refine HCL.out.mono ?_; rintro e W5 ⟨v', rfl, hos, hb5⟩; obtain ⟨nA, nc, env⟩ := hos.form; rw [List.length_drop, hz1] at env; subst env; have HOS := hide hos; have HB5 := hide hb5; obtain ⟨y5, yf, yl⟩ := HXB.out W5 hb5; clear hos hb5) | fail)
    go_ret
    refine ⟨rfl, (HB5.out.mono H.out.sz).setCell (p := ⟨b, 5, none⟩) H.out.hb _, fun a o u hu hne => ?_, nA, nc, by rw [hz1]; exact H.out.new_q HB5.out (Nat.le_refl _) ⟨_, HOS.out⟩⟩
    rw [World.cell?_setCell_far _ ⟨b, 5, none⟩ ⟨a, o, none⟩ _ (fun e => hne e.symm)]
    exact kc hu HB5.out (cell_lt hu)
  · have hcI : ¬ ((c' : Int) = 1) := by omega
    obtain ⟨fq, ho⟩ : ∃ fq, Ow W (.s 1 (x.queue.drop 1).length ((x.queue.drop 1).flatMap intC)) (.slice (some ⟨g, 1, none⟩) (x.queue.length - 1) (c' - 1)) fq := by
      rcases hT with ⟨h1, _, _⟩ | ⟨_, fq, ho, _, _⟩
      · exact absurd h1 hc
      · exact ⟨fq, ho⟩
    skip
    have HCL := hide (cloneInt_any _ _ _ _ fq W ho (by rw [List.length_drop]; omega))
    have HXB := hide (fun (W' : World) (hb : Below W.heap.size W W') => (show W'.cell? ⟨b, 5, none⟩ = some (.slice (some ⟨g, 0, none⟩) x.queue.length c') ∧ W'.frozen? ⟨b, 5, none⟩ = false ∧ b < W'.heap.size from ⟨(H.out.box.below hb xl).cell 5, (H.out.box.below hb xl).frozen 5, Nat.lt_of_lt_of_le xl hb.size⟩))
    clear ho hT
    go_enter Try.func138, Try.ntmps138
    go_wp2_with (first | (go_at_call 165; refine HCL.out.mono ?_; rintro e W5 ⟨v', rfl, hos, hb5⟩; obtain ⟨nA, nc, env⟩ := hos.form; rw [List.length_drop] at env; subst env; have HOS := hide hos; have HB5 := hide hb5; obtain ⟨y5, yf, yl⟩ := HXB.out W5 hb5; clear hos hb5) | fail)
    go_ret
    refine ⟨rfl, (HB5.out.mono H.out.sz).setCell (p := ⟨b, 5, none⟩) H.out.hb _, fun a o u hu hne => ?_, nA, nc, H.out.new_q HB5.out (Nat.le_refl _) ⟨_, HOS.out⟩⟩
    rw [World.cell?_setCell_far _ ⟨b, 5, none⟩ ⟨a, o, none⟩ _ (fun e => hne e.symm)]
    exact kc hu HB5.out (cell_lt hu)
set_option maxRecDepth 100000 in
set_option maxHeartbeats 4000000 in
theorem first_r (w0 W : World) (b B : Nat) (x : CrewWorld) (v : V7) (h : Wz w0 W b B [] id x v) (hq : 0 < x.results.length) (hb8 : x.results.length ≤ 1048576) : Calls Try.prog 138 #[.pointer (some ⟨b, 8, none⟩)] W (fun e W' => e = .returned (.int .i64 (x.results[0]?.getD 0)) ∧ Below B W W' ∧ (∀ a o u, W.cell? ⟨a, o, none⟩ = some u → a ≠ b → W'.cell? ⟨a, o, none⟩ = some u) ∧ ∃ (A' : Option Addr) (d' : Nat), Wz w0 W' b B [] id { x with results := x.results.drop 1 } { v with r := .slice A' (x.results.length - 1) d' }) := by
  obtain ⟨g, c', e', bq, lq, -⟩ := h.ws.r.at0 hq
  obtain ⟨vq, vh, vr, vg, vo, vt, vs⟩ := v
  change vr = _ at e'
  subst e'
  have qc : W.cell? ⟨g, 0, none⟩ = some (.int .i64 (x.results[0]?.getD 0)) := by rw [List.getElem?_eq_getElem hq]; exact (h.ws.r.cell 0 hq).1
  generalize hjj : x.results[0]?.getD 0 = j at qc ⊢
  clear hjj
  have hqI : (0 : Int) < (x.results.length : Int) := by omega
  have hqI1 : (1 : Int) ≤ (x.results.length : Int) := by omega
  have hqe : ¬ (x.results = []) := fun e => by rw [e] at hq; exact Nat.lt_irrefl _ hq
  have hqc : x.results.length ≤ c' := by
    obtain ⟨fp, ho, -, -⟩ := h.ws.r.ow
    exact ho.nlen.2.1
  have hqcI : (x.results.length : Int) ≤ (c' : Int) := by omega
  have x8 : W.cell? ⟨b, 8, none⟩ = some (.slice (some ⟨g, 0, none⟩) x.results.length c') := h.box.cell 8
  have hT := h.ws.r.tail hq
  have H := hide h
  have xl := h.lt
  clear h
  by_cases hc : c' = 1
  · subst hc
    have hcI : ((1 : Nat) : Int) = 1 := rfl
    obtain ⟨fq, ho⟩ : ∃ fq, Ow W (.s 1 (x.results.drop 1).length ((x.results.drop 1).flatMap intC)) (.slice (some ⟨g, 0, none⟩) 0 0) fq := by
      rcases hT with ⟨_, _, ho⟩ | ⟨h1, _⟩
      · exact ⟨[], ho _ _ (by unfold maxLen; omega)⟩
      · exact absurd rfl h1
    have hz1 : x.results.length - 1 = 0 := by omega
    have HCL := hide (cloneInt_any _ _ _ _ fq W ho (by rw [List.length_drop]; omega))
    have HXB := hide (fun (W' : World) (hb : Below W.heap.size W W') => (show W'.cell? ⟨b, 8, none⟩ = some (.slice (some ⟨g, 0, none⟩) x.results.length 1) ∧ W'.frozen? ⟨b, 8, none⟩ = false ∧ b < W'.heap.size from ⟨(H.out.box.below hb xl).cell 8, (H.out.box.below hb xl).frozen 8, Nat.lt_of_lt_of_le xl hb.size⟩))
    clear ho hT
    go_enter Try.func138, Try.ntmps138
    go_wp2_with (first | (go_at_call 165; refine HCL.out.mono ?_; rintro e W5 ⟨v', rfl, hos, hb5⟩; obtain ⟨nA, nc, env⟩ := hos.form; rw [List.length_drop, hz1] at env; subst env; have HOS := hide hos; have HB5 := hide hb5; obtain ⟨y8, yf, yl⟩ := HXB.out W5 hb5; clear hos hb5) | fail)
    go_ret
    refine ⟨rfl, (HB5.out.mono H.out.sz).setCell (p := ⟨b, 8, none⟩) H.out.hb _, fun a o u hu hne => ?_, nA, nc, by rw [hz1]; exact H.out.new_r HB5.out (Nat.le_refl _) ⟨_, HOS.out⟩⟩
    rw [World.cell?_setCell_far _ ⟨b, 8, none⟩ ⟨a, o, none⟩ _ (fun e => hne e.symm)]
    exact kc hu HB5.out (cell_lt hu)
  · have hcI : ¬ ((c' : Int) = 1) := by omega
    obtain ⟨fq, ho⟩ : ∃ fq, Ow W (.s 1 (x.results.drop 1).length ((x.results.drop 1).flatMap intC)) (.slice (some ⟨g, 1, none⟩) (x.results.length - 1) (c' - 1)) fq := by
      rcases hT with ⟨h1, _, _⟩ | ⟨_, fq, ho, _, _⟩
      · exact absurd h1 hc
      · exact ⟨fq, ho⟩
    skip
    have HCL := hide (cloneInt_any _ _ _ _ fq W ho (by rw [List.length_drop]; omega))
    have HXB := hide (fun (W' : World) (hb : Below W.heap.size W W') => (show W'.cell? ⟨b, 8, none⟩ = some (.slice (some ⟨g, 0, none⟩) x.results.length c') ∧ W'.frozen? ⟨b, 8, none⟩ = false ∧ b < W'.heap.size from ⟨(H.out.box.below hb xl).cell 8, (H.out.box.below hb xl).frozen 8, Nat.lt_of_lt_of_le xl hb.size⟩))
    clear ho hT
    go_enter Try.func138, Try.ntmps138
    go_wp2_with (first | (go_at_call 165; refine HCL.out.mono ?_; rintro e W5 ⟨v', rfl, hos, hb5⟩; obtain ⟨nA, nc, env⟩ := hos.form; rw [List.length_drop] at env; subst env; have HOS := hide hos; have HB5 := hide hb5; obtain ⟨y8, yf, yl⟩ := HXB.out W5 hb5; clear hos hb5) | fail)
    go_ret
    refine ⟨rfl, (HB5.out.mono H.out.sz).setCell (p := ⟨b, 8, none⟩) H.out.hb _, fun a o u hu hne => ?_, nA, nc, H.out.new_r HB5.out (Nat.le_refl _) ⟨_, HOS.out⟩⟩
    rw [World.cell?_setCell_far _ ⟨b, 8, none⟩ ⟨a, o, none⟩ _ (fun e => hne e.symm)]
    exact kc hu HB5.out (cell_lt hu)
set_option maxRecDepth 100000 in
set_option maxHeartbeats 4000000 in
theorem first_o (w0 W : World) (b B : Nat) (x : CrewWorld) (v : V7) (h : Wz w0 W b B [] id x v) (hq : 0 < x.out.length) (hb8 : x.out.length ≤ 1048576) : Calls Try.prog 138 #[.pointer (some ⟨b, 12, none⟩)] W (fun e W' => e = .returned (.int .i64 (x.out[0]?.getD 0)) ∧ Below B W W' ∧ (∀ a o u, W.cell? ⟨a, o, none⟩ = some u → a ≠ b → W'.cell? ⟨a, o, none⟩ = some u) ∧ ∃ (A' : Option Addr) (d' : Nat), Wz w0 W' b B [] id { x with out := x.out.drop 1 } { v with o := .slice A' (x.out.length - 1) d' }) := by
  obtain ⟨g, c', e', bq, lq, -⟩ := h.ws.o.at0 hq
  obtain ⟨vq, vh, vr, vg, vo, vt, vs⟩ := v
  change vo = _ at e'
  subst e'
  have qc : W.cell? ⟨g, 0, none⟩ = some (.int .i64 (x.out[0]?.getD 0)) := by rw [List.getElem?_eq_getElem hq]; exact (h.ws.o.cell 0 hq).1
  generalize hjj : x.out[0]?.getD 0 = j at qc ⊢
  clear hjj
  have hqI : (0 : Int) < (x.out.length : Int) := by omega
  have hqI1 : (1 : Int) ≤ (x.out.length : Int) := by omega
  have hqe : ¬ (x.out = []) := fun e => by rw [e] at hq; exact Nat.lt_irrefl _ hq
  have hqc : x.out.length ≤ c' := by
    obtain ⟨fp, ho, -, -⟩ := h.ws.o.ow
    exact ho.nlen.2.1
  have hqcI : (x.out.length : Int) ≤ (c' : Int) := by omega
  have x12 : W.cell? ⟨b, 12, none⟩ = some (.slice (some ⟨g, 0, none⟩) x.out.length c') := h.box.cell 12
  have hT := h.ws.o.tail hq
  have H := hide h
  have xl := h.lt
  clear h
  by_cases hc : c' = 1
  · subst hc
    have hcI : ((1 : Nat) : Int) = 1 := rfl
    obtain ⟨fq, ho⟩ : ∃ fq, Ow W (.s 1 (x.out.drop 1).length ((x.out.drop 1).flatMap intC)) (.slice (some ⟨g, 0, none⟩) 0 0) fq := by
      rcases hT with ⟨_, _, ho⟩ | ⟨h1, _⟩
      · exact ⟨[], ho _ _ (by unfold maxLen; omega)⟩
      · exact absurd rfl h1
    have hz1 : x.out.length - 1 = 0 := by omega
    have HCL := hide (cloneInt_any _ _ _ _ fq W ho (by rw [List.length_drop]; omega))
    have HXB := hide (fun (W' : World) (hb : Below W.heap.size W W') => (show W'.cell? ⟨b, 12, none⟩ = some (.slice (some ⟨g, 0, none⟩) x.out.length 1) ∧ W'.frozen? ⟨b, 12, none⟩ = false ∧ b < W'.heap.size from ⟨(H.out.box.below hb xl).cell 12, (H.out.box.below hb xl).frozen 12, Nat.lt_of_lt_of_le xl hb.size⟩))
    clear ho hT
    go_enter Try.func138, Try.ntmps138
    go_wp2_with (first | (go_at_call 165; refine HCL.out.mono ?_; rintro e W5 ⟨v', rfl, hos, hb5⟩; obtain ⟨nA, nc, env⟩ := hos.form; rw [List.length_drop, hz1] at env; subst env; have HOS := hide hos; have HB5 := hide hb5; obtain ⟨y12, yf, yl⟩ := HXB.out W5 hb5; clear hos hb5) | fail)
    go_ret
    refine ⟨rfl, (HB5.out.mono H.out.sz).setCell (p := ⟨b, 12, none⟩) H.out.hb _, fun a o u hu hne => ?_, nA, nc, by rw [hz1]; exact H.out.new_o HB5.out (Nat.le_refl _) ⟨_, HOS.out⟩⟩
    rw [World.cell?_setCell_far _ ⟨b, 12, none⟩ ⟨a, o, none⟩ _ (fun e => hne e.symm)]
    exact kc hu HB5.out (cell_lt hu)
  · have hcI : ¬ ((c' : Int) = 1) := by omega
    obtain ⟨fq, ho⟩ : ∃ fq, Ow W (.s 1 (x.out.drop 1).length ((x.out.drop 1).flatMap intC)) (.slice (some ⟨g, 1, none⟩) (x.out.length - 1) (c' - 1)) fq := by
      rcases hT with ⟨h1, _, _⟩ | ⟨_, fq, ho, _, _⟩
      · exact absurd h1 hc
      · exact ⟨fq, ho⟩
    skip
    have HCL := hide (cloneInt_any _ _ _ _ fq W ho (by rw [List.length_drop]; omega))
    have HXB := hide (fun (W' : World) (hb : Below W.heap.size W W') => (show W'.cell? ⟨b, 12, none⟩ = some (.slice (some ⟨g, 0, none⟩) x.out.length c') ∧ W'.frozen? ⟨b, 12, none⟩ = false ∧ b < W'.heap.size from ⟨(H.out.box.below hb xl).cell 12, (H.out.box.below hb xl).frozen 12, Nat.lt_of_lt_of_le xl hb.size⟩))
    clear ho hT
    go_enter Try.func138, Try.ntmps138
    go_wp2_with (first | (go_at_call 165; refine HCL.out.mono ?_; rintro e W5 ⟨v', rfl, hos, hb5⟩; obtain ⟨nA, nc, env⟩ := hos.form; rw [List.length_drop] at env; subst env; have HOS := hide hos; have HB5 := hide hb5; obtain ⟨y12, yf, yl⟩ := HXB.out W5 hb5; clear hos hb5) | fail)
    go_ret
    refine ⟨rfl, (HB5.out.mono H.out.sz).setCell (p := ⟨b, 12, none⟩) H.out.hb _, fun a o u hu hne => ?_, nA, nc, H.out.new_o HB5.out (Nat.le_refl _) ⟨_, HOS.out⟩⟩
    rw [World.cell?_setCell_far _ ⟨b, 12, none⟩ ⟨a, o, none⟩ _ (fun e => hne e.symm)]
    exact kc hu HB5.out (cell_lt hu)
set_option maxRecDepth 100000 in
set_option maxHeartbeats 4000000 in
theorem moveReader_any (w0 W : World) (b B : Nat) (x : CrewWorld) (v : V7) (h : Wz w0 W b B [] id x v) (hok : x.ok) (k : Nat) (hk : x.rd[k]? = some true) : Calls Try.prog 133 #[.pointer (some ⟨b, 0, none⟩), .int .i64 (k : Int)] W (MvOut w0 b B (x.doReader (k : Int))) := by
  have HOK := hide hok
  obtain ⟨k1, k2, k3, k4, k5, k6, k7⟩ := ok_lens hok
  obtain ⟨k0n, k1n, k2n, k3n, k4n, k5n, k6n⟩ := ok_nums hok
  obtain ⟨s2, s4, s7, sh_, sr_⟩ := ok_some hok
  have SH := hide sh_
  have SR := hide sr_
  clear sh_ sr_
  obtain ⟨vq, vh, vr, vg, vo, vt, vs⟩ := v
  obtain ⟨A1, c1, e1⟩ := h.ws.q.form
  change vq = _ at e1
  subst e1
  obtain ⟨g2, c2, e2, b2, l2, -⟩ := h.ws.h.at0 (by show 0 < x.hands.length; omega)
  change vh = _ at e2
  subst e2
  obtain ⟨A3, c3, e3⟩ := h.ws.r.form
  change vr = _ at e3
  subst e3
  obtain ⟨g4, c4, e4, b4, l4, -⟩ := h.ws.g.at0 (by show 0 < x.ring.length; omega)
  change vg = _ at e4
  subst e4
  obtain ⟨A5, c5, e5⟩ := h.ws.o.form
  change vo = _ at e5
  subst e5
  obtain ⟨A6, c6, e6⟩ := h.ws.t.form
  change vt = _ at e6
  subst e6
  obtain ⟨g7, c7, e7, b7, l7, -⟩ := h.ws.s.at0 (by show 0 < x.shut.length; omega)
  change vs = _ at e7
  subst e7
  have H := hide h
  have HSH := hide (shut_any w0 W b B x _ h s2 s4 s7 (by omega) 0 (by omega))
  clear h
  have hrd := hok.form.reader
  obtain ⟨ib, hib, jb0, jb1, jb2⟩ := info_parts info_int
  have HIb := hide hib
  clear hib
  have x3 : W.cell? ⟨b, 3, none⟩ = some (.int .i64 x.next) := H.out.box.cell 3
  have x4 : W.cell? ⟨b, 4, none⟩ = some (.int .i64 x.reader) := H.out.box.cell 4
  have x5 : W.cell? ⟨b, 5, none⟩ = some (.slice A1 x.queue.length c1) := H.out.box.cell 5
  have x15 : W.cell? ⟨b, 15, none⟩ = some (.int .i64 x.room) := H.out.box.cell 15
  have x17 : W.cell? ⟨b, 17, none⟩ = some (.int .i64 x.ops) := H.out.box.cell 17
  have xf3 : W.frozen? ⟨b, 3, none⟩ = false := H.out.box.frozen 3
  have xf4 : W.frozen? ⟨b, 4, none⟩ = false := H.out.box.frozen 4
  have xf5 : W.frozen? ⟨b, 5, none⟩ = false := H.out.box.frozen 5
  have xf15 : W.frozen? ⟨b, 15, none⟩ = false := H.out.box.frozen 15
  have xf17 : W.frozen? ⟨b, 17, none⟩ = false := H.out.box.frozen 17
  have xl : b < W.heap.size := H.out.lt
  obtain ⟨wv0, wu0⟩ := wk (x.ops + 1) (by omega) (by omega)
  obtain ⟨wv1, wu1⟩ := wk (x.next + 1) (by omega) (by omega)
  obtain ⟨wv2, wu2⟩ := wk (x.next - 1) (by omega) (by omega)
  obtain ⟨wv3, wu3⟩ := wk (x.room - 1) (by omega) (by omega)
  unfold CrewWorld.rd at hk
  have HKH := hide hk
  by_cases h2 : x.reader = 2
  · have r2 : (x.reader == 2) = true := beqt h2
    have HE := hide (show x.doReader (k : Int) = x.r3 from by unfold CrewWorld.doReader; rw [if_pos h2]; rfl)
    clear hk h2
    go_enter Try.func133, Try.ntmps133
    go_upto_region 5 with (first | (go_at_call 131; refine HSH.out.mono ?_; rintro e W1 ⟨rfl, v1, h1⟩) | fail)
    have H1 := hide h1
    have y4 : W1.cell? ⟨b, 4, none⟩ = some (.int .i64 x.reader) := H1.out.box.cell 4
    have yf4 : W1.frozen? ⟨b, 4, none⟩ = false := H1.out.box.frozen 4
    have yl : b < W1.heap.size := H1.out.lt
    clear h1
    go_wp2
    go_end0
    rw [HE.out]
    exact ⟨rfl, _, H1.out.set_reader 3⟩
  have r2 : (x.reader == 2) = false := beqf h2
  by_cases hp : 0 < (k : Int)
  · have p0 : decide (0 < (k : Int)) = true := dec_true hp
    have p0n : decide (0 < k) = true := dec_true (by omega)
    have HE := hide (show x.doReader (k : Int) = x.r2 from by unfold CrewWorld.doReader; rw [if_neg h2, if_pos hp]; rfl)
    clear hk h2
    go_enter Try.func133, Try.ntmps133
    go_wp2
    go_end0
    rw [HE.out]
    exact ⟨rfl, _, H.out.set_reader 2⟩
  obtain rfl : k = 0 := by omega
  have p0 : decide (0 < ((0 : Nat) : Int)) = false := dec_false hp
  by_cases h0 : x.reader = 0
  · have r0 : (x.reader == 0) = true := beqt h0
    have HE := hide (show x.doReader ((0 : Nat) : Int) = { x with room := x.room - 1, next := x.next + 1, reader := 1, ops := x.ops + 1 } from by unfold CrewWorld.doReader; rw [if_neg h2, if_neg hp, if_pos h0])
    clear hk h2
    go_enter Try.func133, Try.ntmps133
    go_wp2
    go_end0
    exact ⟨rfl, _, HE.out ▸ (((H.out.set_room (x.room - 1)).set_next (x.next + 1)).set_ops (x.ops + 1)).set_reader 1⟩
  have r0 : (x.reader == 0) = false := beqf h0
  have HE := hide (show x.doReader ((0 : Nat) : Int) = x.r10 from by unfold CrewWorld.doReader; rw [if_neg h2, if_neg hp, if_neg h0]; rfl)
  clear hk h2
  have HD5 := hide (H.out.drewN 1)
  have HWA := hide (HD5.out.alloc (.cells #[.int .i64 (x.next - 1)] 3))
  obtain ⟨uq_, huq_⟩ := HWA.out.ws.q
  have HQq := hide huq_
  clear huq_
  go_enter Try.func133, Try.ntmps133
  go_wp2_with fail
  go_region_law (first | (refine step_app (by rfl) _ _ 22 (by rfl) ib _ 8 Try.underlying22 HIb.out jb0 jb1 jb2 rfl (by decide) intC_len (by rfl) HQq.out [x.next - 1] (int_srcP (show (Lit.int .i64 (x.next - 1)).wf = true from WalkArith.wf_i64 (by omega)) _) (by exact New.nil _ _) (fun q _ hq => by cases hq) _ 1 1 (by rfl) rfl (SrcAt.new (W.drewN 1) _ _ _ _) (by first | omega | (simp only [List.length_append, List.length_cons, List.length_nil]; omega)) (by decide) HWA.out.sz ?_; intro w5A w5n w5c w5 hn5 hown5 hgb5; have HP5 := hide (HWA.out.app_q hgb5 hown5); have hr5 := hgb5.row HWA.out.box (HWA.out.free (.slice A1 x.queue.length c1) (by simp [V7.list])); have w5x3 : w5.cell? ⟨b, 3, none⟩ = some (.int .i64 x.next) := hr5.cell 3; have w5x4 : w5.cell? ⟨b, 4, none⟩ = some (.int .i64 x.reader) := hr5.cell 4; have w5x5 : w5.cell? ⟨b, 5, none⟩ = some (.slice A1 x.queue.length c1) := hr5.cell 5; have w5x17 : w5.cell? ⟨b, 17, none⟩ = some (.int .i64 x.ops) := hr5.cell 17; have w5y4 := hr5.frozen 4; have w5y5 := hr5.frozen 5; have w5y17 := hr5.frozen 17; have w5l := hr5.lt; clear hown5 hgb5 hn5 hr5))
  all_goals
    go_wp2
    go_end0
    show MvOut w0 b B (x.doReader ((0 : Nat) : Int)) _ _
    rw [HE.out]
    exact ⟨rfl, _, (HP5.out.set_ops (x.ops + 1)).set_reader 0⟩
end Go.Proofs.Ytpkjjfnfolbcoaa
set_option linter.unusedVariables false
set_option linter.unusedSimpArgs false
namespace Go.Proofs.Ytpkjjfnfolbcoaa
open Go.ChangeShapes Go.WideShapes Go.ChangeAt Go.RowKit

set_option maxRecDepth 100000 in
set_option maxHeartbeats 4000000 in
theorem moveHand_any (w0 W : World) (b B : Nat) (x : CrewWorld) (v : V7) (h : Wz w0 W b B [] id x v) (hok : x.ok) (i k : Nat) (hi : i < x.hands.length) (hk : (x.hw (x.hnd i))[k]? = some true) (gh ch : Nat) (hv : v.h = .slice (some ⟨gh, 0, none⟩) x.hands.length ch) : Calls Try.prog 139 #[.pointer (some ⟨b, 0, none⟩), .pointer (some ⟨gh, i * 2, none⟩), .int .i64 (k : Int)] W (MvOut w0 b B (x.doHand i (k : Int))) := by
  have HOK := hide hok
  obtain ⟨k1, k2, k3, k4, k5, k6, k7⟩ := ok_lens hok
  obtain ⟨k0n, k1n, k2n, k3n, k4n, k5n, k6n⟩ := ok_nums hok
  obtain ⟨s2, s4, s7, sh_, sr_⟩ := ok_some hok
  have SH := hide sh_
  have SR := hide sr_
  clear sh_ sr_
  obtain ⟨vq, vh, vr, vg, vo, vt, vs⟩ := v
  obtain ⟨A1, c1, e1⟩ := h.ws.q.form
  change vq = _ at e1
  subst e1
  obtain ⟨g2, c2, e2, b2, l2, -⟩ := h.ws.h.at0 (by show 0 < x.hands.length; omega)
  change vh = _ at e2
  subst e2
  obtain ⟨A3, c3, e3⟩ := h.ws.r.form
  change vr = _ at e3
  subst e3
  obtain ⟨g4, c4, e4, b4, l4, -⟩ := h.ws.g.at0 (by show 0 < x.ring.length; omega)
  change vg = _ at e4
  subst e4
  obtain ⟨A5, c5, e5⟩ := h.ws.o.form
  change vo = _ at e5
  subst e5
  obtain ⟨A6, c6, e6⟩ := h.ws.t.form
  change vt = _ at e6
  subst e6
  obtain ⟨g7, c7, e7, b7, l7, -⟩ := h.ws.s.at0 (by show 0 < x.shut.length; omega)
  change vs = _ at e7
  subst e7
  change Value.slice (some ⟨g2, 0, none⟩) x.hands.length c2 = _ at hv
  injection hv with hv1 hv2 hv3
  injection hv1 with hv1
  injection hv1 with hv1
  subst hv1
  clear hv2 hv3
  have H := hide h
  clear h
  have HN := hide (hnd_at hi)
  obtain ⟨ib, hib, jb0, jb1, jb2⟩ := info_parts info_int
  have HIb := hide hib
  clear hib
  have x5 : W.cell? ⟨b, 5, none⟩ = some (.slice A1 x.queue.length c1) := H.out.box.cell 5
  have x6 : W.cell? ⟨b, 6, none⟩ = some (.slice (some ⟨g2, 0, none⟩) x.hands.length c2) := H.out.box.cell 6
  have x8 : W.cell? ⟨b, 8, none⟩ = some (.slice A3 x.results.length c3) := H.out.box.cell 8
  have x17 : W.cell? ⟨b, 17, none⟩ = some (.int .i64 x.ops) := H.out.box.cell 17
  have xf5 : W.frozen? ⟨b, 5, none⟩ = false := H.out.box.frozen 5
  have xf8 : W.frozen? ⟨b, 8, none⟩ = false := H.out.box.frozen 8
  have xf17 : W.frozen? ⟨b, 17, none⟩ = false := H.out.box.frozen 17
  have xl : b < W.heap.size := H.out.lt
  obtain ⟨wv0, wu0⟩ := wk (x.ops + 1) (by omega) (by omega)
  have hg2b : g2 ≠ b := fun e => H.out.free (.slice (some ⟨g2, 0, none⟩) x.hands.length c2) (by simp [V7.list]) (congrArg some e)
  have hg2l : g2 < W.heap.size := (H.out.ws.h.lt g2 rfl).2
  obtain ⟨hs0, hs1, hwf⟩ := H.out.ws.h.cellH i hi
  have hz0 := H.out.ws.h.froz s2 (i * 2)
  have hz1 := H.out.ws.h.froz s2 (i * 2 + 1)
  rw [HN.out] at hs0 hs1 hwf
  obtain ⟨hst, hjb⟩ := hwf
  have HK := hide hk
  clear hk
  have HSB := hide (show 0 ≤ (x.hnd i).state ∧ (x.hnd i).state ≤ 3 from by
    have hf := HOK.out.form.fine x.hands[i] (List.getElem_mem hi)
    rw [HN.out] at hf
    exact hf.1)
  generalize HHD : x.hnd i = hd at *
  by_cases hp : 0 < (k : Int)
  · have p0 : decide (0 < (k : Int)) = true := dec_true hp
    have p0n : decide (0 < k) = true := dec_true (by omega)
    by_cases hp2 : (k : Int) = 2
    · have p2 : ((k : Int) == 2) = true := beqt hp2
      have p2n : (k == 2) = true := by simpa using (show k = 2 by omega)
      have HE := hide (show x.doHand i (k : Int) = x.h03 i from by unfold CrewWorld.doHand; rw [if_pos hp2])
      clear hp2 hp
      go_enter Try.func139, Try.ntmps139
      go_wp2_with fail
      go_region_law (first | (go_simp; go_at_call 123; refine (bit_any _ _).mono ?_; rintro e w_ ⟨rfl, rfl⟩))
      all_goals
        go_wp2
        go_end0
        rw [HE.out]
        exact ⟨rfl, _, (H.out.drew.set_ops (x.ops + 1)).hand rfl i hi 3 0 (by decide) (by decide)⟩
    · have p2 : ((k : Int) == 2) = false := beqf hp2
      have p2n : (k == 2) = false := by simpa using (show ¬ k = 2 by omega)
      have HE := hide (show x.doHand i (k : Int) = x.h3s i from by unfold CrewWorld.doHand; rw [if_neg hp2, if_pos hp])
      clear hp2 hp
      go_enter Try.func139, Try.ntmps139
      go_wp2_with fail
      go_region_law (first | (go_simp; go_at_call 123; refine (bit_any _ _).mono ?_; rintro e w_ ⟨rfl, rfl⟩))
      all_goals
        go_wp2
        go_end0
        rw [HE.out]
        exact ⟨rfl, _, (H.out.drew.set_ops x.ops).hand rfl i hi 3 0 (by decide) (by decide)⟩
  have p0 : decide (0 < (k : Int)) = false := dec_false hp
  have p0n : decide (0 < k) = false := dec_false (by omega)
  have hp2 : ¬ (k : Int) = 2 := by omega
  by_cases h0 : hd.state = 0
  · have r0 : (hd.state == 0) = true := beqt h0
    have hq : 0 < x.queue.length := by
      have h := HK.out
      have hk0 : k = 0 := by omega
      unfold CrewWorld.hw at h
      rw [if_pos h0, hk0] at h
      simpa using h
    have HE := hide (show x.doHand i (k : Int) = x.h01 i from by unfold CrewWorld.doHand; rw [if_neg hp2, if_neg hp, HHD, if_pos h0])
    have qw : (Lit.int .i64 (x.queue[0]?.getD 0)).wf = true := by
      rw [List.getElem?_eq_getElem hq]
      obtain ⟨fp, ho, -, -⟩ := H.out.ws.q.ow
      exact ints_wf ho _ (List.getElem_mem hq)
    have HQ := hide (first_q w0 W b B x _ H.out hq (by omega))
    clear h0 hp2 hp
    have hE : x.h01 i = { x with hands := x.hands.set i ⟨1, x.queue[0]?.getD 0⟩, queue := x.queue.drop 1, ops := x.ops + 1 } := rfl
    rw [hE] at HE
    generalize x.queue[0]?.getD 0 = j at HQ HE qw
    clear hE
    go_enter Try.func139, Try.ntmps139
    go_wp2_with (first | (go_at_call 138; refine HQ.out.mono ?_; rintro e W5 ⟨rfl, hb5, hk5, A', d', h5⟩; have H5 := hide h5; have y17 : W5.cell? ⟨b, 17, none⟩ = some (.int .i64 x.ops) := H5.out.box.cell 17; have yf17 : W5.frozen? ⟨b, 17, none⟩ = false := H5.out.box.frozen 17; have yl : b < W5.heap.size := H5.out.lt; have y0 := hk5 _ _ _ hs0 hg2b; have y1 := hk5 _ _ _ hs1 hg2b; have yz0 := H5.out.ws.h.froz s2 (i * 2); have yz1 := H5.out.ws.h.froz s2 (i * 2 + 1); have ygl : g2 < W5.heap.size := (H5.out.ws.h.lt g2 rfl).2; clear hb5 hk5 h5) | fail)
    go_end0
    rw [HE.out]
    exact ⟨rfl, _, (H5.out.hand rfl i hi 1 j (by decide) qw).set_ops (x.ops + 1)⟩
  have r0 : (hd.state == 0) = false := beqf h0
  by_cases h1 : hd.state = 1
  · have r1 : (hd.state == 1) = true := beqt h1
    have HE := hide (show x.doHand i (k : Int) = x.h12 i from by unfold CrewWorld.doHand; rw [if_neg hp2, if_neg hp, HHD, if_neg h0, if_pos h1])
    have hE : x.h12 i = { x with hands := x.hands.set i ⟨2, x.hands[i].job⟩ } := by unfold CrewWorld.h12; rw [HHD, HN.out]
    rw [hE] at HE
    clear h1 h0 hp2 hp hE
    go_enter Try.func139, Try.ntmps139
    go_wp2
    go_end0
    rw [HE.out]
    exact ⟨rfl, _, H.out.state rfl i hi 2 (by decide)⟩
  have r1 : (hd.state == 1) = false := beqf h1
  have HE := hide (show x.doHand i (k : Int) = x.h20 i from by unfold CrewWorld.doHand; rw [if_neg hp2, if_neg hp, HHD, if_neg h0, if_neg h1])
  have hE : x.h20 i = { x with hands := x.hands.set i ⟨0, 0⟩, results := x.results ++ [hd.job], ops := x.ops + 1 } := by unfold CrewWorld.h20; rw [HHD]
  rw [hE] at HE
  clear h1 h0 hp2 hp hE
  have HD5 := hide (H.out.drewN 1)
  have HWA := hide (HD5.out.alloc (.cells #[.int .i64 hd.job] 3))
  obtain ⟨ur_, hur_⟩ := HWA.out.ws.r
  have HQr := hide hur_
  clear hur_
  go_enter Try.func139, Try.ntmps139
  go_wp2_with fail
  go_region_law (first | (refine step_app (by rfl) _ _ 22 (by rfl) ib _ 8 Try.underlying22 HIb.out jb0 jb1 jb2 rfl (by decide) intC_len (by rfl) HQr.out [hd.job] (int_srcP hjb _) (by exact New.nil _ _) (fun q _ hq => by cases hq) _ 1 1 (by rfl) rfl (SrcAt.new (W.drewN 1) _ _ _ _) (by first | omega | (simp only [List.length_append, List.length_cons, List.length_nil]; omega)) (by decide) HWA.out.sz ?_; intro w5A w5n w5c w5 hn5 hown5 hgb5; have HP5 := hide (HWA.out.app_r hgb5 hown5); have hr5 := hgb5.row HWA.out.box (HWA.out.free (.slice A3 x.results.length c3) (by simp [V7.list])); have w5x8 : w5.cell? ⟨b, 8, none⟩ = some (.slice A3 x.results.length c3) := hr5.cell 8; have w5x17 : w5.cell? ⟨b, 17, none⟩ = some (.int .i64 x.ops) := hr5.cell 17; have w5y8 := hr5.frozen 8; have w5y17 := hr5.frozen 17; have w5l := hr5.lt; have hs5 := HWA.out.ws.app_r hgb5 hown5; have w5g2 : g2 < w5.heap.size := (hs5.h.lt g2 rfl).2; have w5z0 := hs5.h.froz s2 (i * 2); have w5z1 := hs5.h.froz s2 (i * 2 + 1); have w5c0 := (hs5.h.cellH i hi).1; have w5c1 := (hs5.h.cellH i hi).2.1; clear hs5; clear hown5 hgb5 hn5 hr5))
  all_goals
    go_wp2
    go_end0
    rw [HE.out]
    exact ⟨rfl, _, (HP5.out.set_ops (x.ops + 1)).hand rfl i hi 0 0 (by decide) (by decide)⟩
end Go.Proofs.Ytpkjjfnfolbcoaa
set_option linter.unusedVariables false
set_option linter.unusedSimpArgs false
namespace Go.Proofs.Ytpkjjfnfolbcoaa
open Go.ChangeShapes Go.WideShapes Go.ChangeAt Go.RowKit

set_option maxRecDepth 100000 in
set_option maxHeartbeats 4000000 in
theorem moveKeeper_any (w0 W : World) (b B : Nat) (x : CrewWorld) (v : V7) (h : Wz w0 W b B [] id x v) (hok : x.ok) (k : Nat) (hk : x.kw[k]? = some true) : Calls Try.prog 136 #[.pointer (some ⟨b, 0, none⟩), .int .i64 (k : Int)] W (MvOut w0 b B (x.doKeeper (k : Int))) := by
  have HOK := hide hok
  obtain ⟨k1, k2, k3, k4, k5, k6, k7⟩ := ok_lens hok
  obtain ⟨k0n, k1n, k2n, k3n, k4n, k5n, k6n⟩ := ok_nums hok
  obtain ⟨s2, s4, s7, sh_, sr_⟩ := ok_some hok
  have SH := hide sh_
  have SR := hide sr_
  clear sh_ sr_
  obtain ⟨vq, vh, vr, vg, vo, vt, vs⟩ := v
  obtain ⟨A1, c1, e1⟩ := h.ws.q.form
  change vq = _ at e1
  subst e1
  obtain ⟨g2, c2, e2, b2, l2, -⟩ := h.ws.h.at0 (by show 0 < x.hands.length; omega)
  change vh = _ at e2
  subst e2
  obtain ⟨A3, c3, e3⟩ := h.ws.r.form
  change vr = _ at e3
  subst e3
  obtain ⟨g4, c4, e4, b4, l4, -⟩ := h.ws.g.at0 (by show 0 < x.ring.length; omega)
  change vg = _ at e4
  subst e4
  obtain ⟨A5, c5, e5⟩ := h.ws.o.form
  change vo = _ at e5
  subst e5
  obtain ⟨A6, c6, e6⟩ := h.ws.t.form
  change vt = _ at e6
  subst e6
  obtain ⟨g7, c7, e7, b7, l7, -⟩ := h.ws.s.at0 (by show 0 < x.shut.length; omega)
  change vs = _ at e7
  subst e7
  have H := hide h
  have HSH := hide (shut_any w0 W b B x _ h s2 s4 s7 (by omega) 2 (by omega))
  clear h
  have hkr := hok.form.keeper
  obtain ⟨ib, hib, jb0, jb1, jb2⟩ := info_parts info_int
  have HIb := hide hib
  clear hib
  have x2 : W.cell? ⟨b, 2, none⟩ = some (.int .i64 x.window) := H.out.box.cell 2
  have x9 : W.cell? ⟨b, 9, none⟩ = some (.int .i64 x.keeper) := H.out.box.cell 9
  have x10 : W.cell? ⟨b, 10, none⟩ = some (.slice (some ⟨g4, 0, none⟩) x.ring.length c4) := H.out.box.cell 10
  have x11 : W.cell? ⟨b, 11, none⟩ = some (.int .i64 x.due) := H.out.box.cell 11
  have x12 : W.cell? ⟨b, 12, none⟩ = some (.slice A5 x.out.length c5) := H.out.box.cell 12
  have x15 : W.cell? ⟨b, 15, none⟩ = some (.int .i64 x.room) := H.out.box.cell 15
  have x17 : W.cell? ⟨b, 17, none⟩ = some (.int .i64 x.ops) := H.out.box.cell 17
  have xf9 : W.frozen? ⟨b, 9, none⟩ = false := H.out.box.frozen 9
  have xf11 : W.frozen? ⟨b, 11, none⟩ = false := H.out.box.frozen 11
  have xf12 : W.frozen? ⟨b, 12, none⟩ = false := H.out.box.frozen 12
  have xf15 : W.frozen? ⟨b, 15, none⟩ = false := H.out.box.frozen 15
  have xf17 : W.frozen? ⟨b, 17, none⟩ = false := H.out.box.frozen 17
  have xl : b < W.heap.size := H.out.lt
  obtain ⟨wv0, wu0⟩ := wk (x.ops + 1) (by omega) (by omega)
  obtain ⟨wv1, wu1⟩ := wk (x.room + 1) (by omega) (by omega)
  obtain ⟨wv2, wu2⟩ := wk (x.due + 1) (by omega) (by omega)
  have HK := hide hk
  clear hk
  by_cases hp : 0 < (k : Int)
  · have p0 : decide (0 < (k : Int)) = true := dec_true hp
    have p0n : decide (0 < k) = true := dec_true (by omega)
    by_cases hp2 : (k : Int) = 2
    · have p2 : ((k : Int) == 2) = true := beqt hp2
      have p2n : (k == 2) = true := by simpa using (show k = 2 by omega)
      have HE := hide (show x.doKeeper (k : Int) = x.k4e from by unfold CrewWorld.doKeeper; rw [if_pos hp2])
      clear hp2 hp
      go_enter Try.func136, Try.ntmps136
      go_wp2_with fail
      go_region_law (first | (go_simp; go_at_call 123; refine (bit_any _ _).mono ?_; rintro e w_ ⟨rfl, rfl⟩))
      all_goals
        go_wp2
        go_end0
        rw [HE.out]
        exact ⟨rfl, _, (H.out.drew.set_ops (x.ops + 1)).set_keeper 4⟩
    · have p2 : ((k : Int) == 2) = false := beqf hp2
      have p2n : (k == 2) = false := by simpa using (show ¬ k = 2 by omega)
      have HE := hide (show x.doKeeper (k : Int) = x.k4s from by unfold CrewWorld.doKeeper; rw [if_neg hp2, if_pos hp])
      clear hp2 hp
      go_enter Try.func136, Try.ntmps136
      go_wp2_with fail
      go_region_law (first | (go_simp; go_at_call 123; refine (bit_any _ _).mono ?_; rintro e w_ ⟨rfl, rfl⟩))
      all_goals
        go_wp2
        go_end0
        rw [HE.out]
        exact ⟨rfl, _, (H.out.drew.set_ops x.ops).set_keeper 4⟩
  have p0 : decide (0 < (k : Int)) = false := dec_false hp
  have p0n : decide (0 < k) = false := dec_false (by omega)
  have hp2 : ¬ (k : Int) = 2 := by omega
  by_cases h0 : x.keeper = 0
  · have r0 : (x.keeper == 0) = true := beqt h0
    have hq : 0 < x.results.length := by
      have h := HK.out
      have hk0 : k = 0 := by omega
      unfold CrewWorld.kw at h
      rw [if_pos h0, hk0] at h
      simpa using h
    have HE := hide (show x.doKeeper (k : Int) = x.k01 from by unfold CrewWorld.doKeeper; rw [if_neg hp2, if_neg hp, if_pos h0])
    clear h0 hp2 hp
    have qm : x.results[0]?.getD 0 ∈ x.results := by rw [List.getElem?_eq_getElem hq]; exact List.getElem_mem hq
    have qn := results_nn HOK.out qm
    have qw : (Lit.int .i64 (x.results[0]?.getD 0)).wf = true := by
      obtain ⟨fp, ho, -, -⟩ := H.out.ws.r.ow
      exact ints_wf ho _ qm
    have HQ := hide (first_r w0 W b B x _ H.out hq (by omega))
    generalize hjj : x.results[0]?.getD 0 = j at HQ qw qn
    clear qm
    obtain ⟨p, hp4, hrem, hpe, hw0⟩ := slot_at HOK.out qn
    have hE : x.k01 = { x with results := x.results.drop 1, ring := x.ring.set p j, keeper := 1, ops := x.ops + 1 } := by unfold CrewWorld.k01; rw [hjj, ← hpe]
    rw [hE] at HE
    clear hE hjj hpe
    go_enter Try.func136, Try.ntmps136
    go_upto_region 7 with (first | (go_at_call 138; refine HQ.out.mono ?_; rintro e W5 ⟨rfl, hb5, hk5, A', d', h5⟩; have H5 := hide h5; clear hb5 hk5 h5) | fail)
    clear x2 x9 x10 x11 x12 x15 x17 xf9 xf11 xf12 xf15 xf17 xl
    have x2 : W5.cell? ⟨b, 2, none⟩ = some (.int .i64 x.window) := H5.out.box.cell 2
    have x9 : W5.cell? ⟨b, 9, none⟩ = some (.int .i64 x.keeper) := H5.out.box.cell 9
    have x10 : W5.cell? ⟨b, 10, none⟩ = some (.slice (some ⟨g4, 0, none⟩) x.ring.length c4) := H5.out.box.cell 10
    have x17 : W5.cell? ⟨b, 17, none⟩ = some (.int .i64 x.ops) := H5.out.box.cell 17
    have xf9 : W5.frozen? ⟨b, 9, none⟩ = false := H5.out.box.frozen 9
    have xf17 : W5.frozen? ⟨b, 17, none⟩ = false := H5.out.box.frozen 17
    have xl : b < W5.heap.size := H5.out.lt
    have hg4b : g4 ≠ b := fun e => H5.out.free (.slice (some ⟨g4, 0, none⟩) x.ring.length c4) (by simp [V7.list]) (congrArg some e)
    have hg4l : g4 < W5.heap.size := (H5.out.ws.g.lt g4 rfl).2
    have z4 : W5.cell? ⟨g4, p, none⟩ = some (.int .i64 (x.ring[p]'hp4)) := (H5.out.ws.g.cell p hp4).1
    have zf4 : W5.frozen? ⟨g4, p, none⟩ = false := H5.out.ws.g.froz s4 p
    have hp4I : (p : Int) < (x.ring.length : Int) := by omega
    have hp40 : (0 : Int) ≤ (p : Int) := by omega
    go_wp2_with fail
    go_still_tail 12, (by kernel_rfl)
    change wpList _ _ _ _ _ W5.drew
    have H6 := hide H5.out.drew
    clear x2 x9 x10 x17 xf9 xf17 xl z4 zf4 hg4b hg4l hp4I hp40
    generalize W5.drew = wd at H6 ⊢
    have x2 : wd.cell? ⟨b, 2, none⟩ = some (.int .i64 x.window) := H6.out.box.cell 2
    have x9 : wd.cell? ⟨b, 9, none⟩ = some (.int .i64 x.keeper) := H6.out.box.cell 9
    have x10 : wd.cell? ⟨b, 10, none⟩ = some (.slice (some ⟨g4, 0, none⟩) x.ring.length c4) := H6.out.box.cell 10
    have x17 : wd.cell? ⟨b, 17, none⟩ = some (.int .i64 x.ops) := H6.out.box.cell 17
    have xf9 : wd.frozen? ⟨b, 9, none⟩ = false := H6.out.box.frozen 9
    have xf17 : wd.frozen? ⟨b, 17, none⟩ = false := H6.out.box.frozen 17
    have xl : b < wd.heap.size := H6.out.lt
    have hg4b : g4 ≠ b := fun e => H6.out.free (.slice (some ⟨g4, 0, none⟩) x.ring.length c4) (by simp [V7.list]) (congrArg some e)
    have hg4l : g4 < wd.heap.size := (H6.out.ws.g.lt g4 rfl).2
    have z4 : wd.cell? ⟨g4, p, none⟩ = some (.int .i64 (x.ring[p]'hp4)) := (H6.out.ws.g.cell p hp4).1
    have zf4 : wd.frozen? ⟨g4, p, none⟩ = false := H6.out.ws.g.froz s4 p
    have hp4I : (p : Int) < (x.ring.length : Int) := by omega
    have hp40 : (0 : Int) ≤ (p : Int) := by omega
    go_wp2
    go_end0
    rw [HE.out]
    exact ⟨rfl, _, ((H6.out.int_g rfl p hp4 j qw).set_ops (x.ops + 1)).set_keeper 1⟩
  have r0 : (x.keeper == 0) = false := beqf h0
  by_cases h1 : x.keeper = 1
  · have r1 : (x.keeper == 1) = true := beqt h1
    obtain ⟨fp, ho, hl⟩ := H.out.ws.owc (ok_wf HOK.out)
    have HD := hide (hasDue_any x _ fp b W H.out.box ho hl HOK.out.form)
    have HGB := hide (fun (W' : World) (hb : Below W.heap.size W W') => H.out.below hb)
    clear ho hl
    by_cases hd : x.dueIn
    · have HE := hide (show x.doKeeper (k : Int) = x.k12 from by unfold CrewWorld.doKeeper; rw [if_neg hp2, if_neg hp, if_neg h0, if_pos h1, if_pos hd])
      rw [tb_true hd] at HD
      clear h1 h0 hp2 hp hd
      go_enter Try.func136, Try.ntmps136
      go_wp2_with (first | (go_at_call 119; refine HD.out.mono ?_; rintro e W4 ⟨rfl, hb4⟩; have H4 := hide (HGB.out W4 hb4); have y9 : W4.cell? ⟨b, 9, none⟩ = some (.int .i64 x.keeper) := H4.out.box.cell 9; have yf9 : W4.frozen? ⟨b, 9, none⟩ = false := H4.out.box.frozen 9; have yl : b < W4.heap.size := H4.out.lt; clear hb4) | fail)
      go_end0
      rw [HE.out]
      exact ⟨rfl, _, H4.out.set_keeper 2⟩
    · have HE := hide (show x.doKeeper (k : Int) = x.k10 from by unfold CrewWorld.doKeeper; rw [if_neg hp2, if_neg hp, if_neg h0, if_pos h1, if_neg hd])
      rw [tb_false hd] at HD
      clear h1 h0 hp2 hp hd
      go_enter Try.func136, Try.ntmps136
      go_wp2_with (first | (go_at_call 119; refine HD.out.mono ?_; rintro e W4 ⟨rfl, hb4⟩; have H4 := hide (HGB.out W4 hb4); have y9 : W4.cell? ⟨b, 9, none⟩ = some (.int .i64 x.keeper) := H4.out.box.cell 9; have yf9 : W4.frozen? ⟨b, 9, none⟩ = false := H4.out.box.frozen 9; have yl : b < W4.heap.size := H4.out.lt; clear hb4) | fail)
      go_end0
      rw [HE.out]
      exact ⟨rfl, _, H4.out.set_keeper 0⟩
  have r1 : (x.keeper == 1) = false := beqf h1
  by_cases h2 : x.keeper = 2
  · have r2 : (x.keeper == 2) = true := beqt h2
    have HE := hide (show x.doKeeper (k : Int) = x.k23 from by unfold CrewWorld.doKeeper; rw [if_neg hp2, if_neg hp, if_neg h0, if_neg h1, if_pos h2])
    clear h2 h1 h0 hp2 hp
    obtain ⟨p, hp4, hrem, hpe, hw0⟩ := slot_at HOK.out k4n.1
    have hE : x.k23 = { x with ring := x.ring.set p (-1), out := x.out ++ [x.due], due := x.due + 1, keeper := 3, ops := x.ops + 1 } := by unfold CrewWorld.k23; rw [← hpe]
    rw [hE] at HE
    clear hE hpe
    go_enter Try.func136, Try.ntmps136
    go_upto_region 15 with fail
    have hg4b : g4 ≠ b := fun e => H.out.free (.slice (some ⟨g4, 0, none⟩) x.ring.length c4) (by simp [V7.list]) (congrArg some e)
    have hg4l : g4 < W.heap.size := (H.out.ws.g.lt g4 rfl).2
    have z4 : W.cell? ⟨g4, p, none⟩ = some (.int .i64 (x.ring[p]'hp4)) := (H.out.ws.g.cell p hp4).1
    have zf4 : W.frozen? ⟨g4, p, none⟩ = false := H.out.ws.g.froz s4 p
    have hp4I : (p : Int) < (x.ring.length : Int) := by omega
    have hp40 : (0 : Int) ≤ (p : Int) := by omega
    go_wp2_with fail
    go_still_tail 14, (by kernel_rfl)
    change wpList _ _ _ _ _ W.drew
    have H6 := hide H.out.drew
    clear x2 x9 x10 x11 x12 x15 x17 xf9 xf11 xf12 xf15 xf17 xl z4 zf4 hg4b hg4l hp4I hp40
    generalize W.drew = wd at H6 ⊢
    have x2 : wd.cell? ⟨b, 2, none⟩ = some (.int .i64 x.window) := H6.out.box.cell 2
    have x9 : wd.cell? ⟨b, 9, none⟩ = some (.int .i64 x.keeper) := H6.out.box.cell 9
    have x10 : wd.cell? ⟨b, 10, none⟩ = some (.slice (some ⟨g4, 0, none⟩) x.ring.length c4) := H6.out.box.cell 10
    have x11 : wd.cell? ⟨b, 11, none⟩ = some (.int .i64 x.due) := H6.out.box.cell 11
    have x12 : wd.cell? ⟨b, 12, none⟩ = some (.slice A5 x.out.length c5) := H6.out.box.cell 12
    have x17 : wd.cell? ⟨b, 17, none⟩ = some (.int .i64 x.ops) := H6.out.box.cell 17
    have xf9 : wd.frozen? ⟨b, 9, none⟩ = false := H6.out.box.frozen 9
    have xf11 : wd.frozen? ⟨b, 11, none⟩ = false := H6.out.box.frozen 11
    have xf12 : wd.frozen? ⟨b, 12, none⟩ = false := H6.out.box.frozen 12
    have xf17 : wd.frozen? ⟨b, 17, none⟩ = false := H6.out.box.frozen 17
    have xl : b < wd.heap.size := H6.out.lt
    have hg4b : g4 ≠ b := fun e => H6.out.free (.slice (some ⟨g4, 0, none⟩) x.ring.length c4) (by simp [V7.list]) (congrArg some e)
    have hg4l : g4 < wd.heap.size := (H6.out.ws.g.lt g4 rfl).2
    have z4 : wd.cell? ⟨g4, p, none⟩ = some (.int .i64 (x.ring[p]'hp4)) := (H6.out.ws.g.cell p hp4).1
    have zf4 : wd.frozen? ⟨g4, p, none⟩ = false := H6.out.ws.g.froz s4 p
    have hp4I : (p : Int) < (x.ring.length : Int) := by omega
    have hp40 : (0 : Int) ≤ (p : Int) := by omega
    go_upto_region 16 with fail
    have HG := hide (H6.out.int_g rfl p hp4 (-1) (by decide))
    generalize hw3 : World.setCell _ _ _ = w3 at HG ⊢
    clear hw3 z4 zf4 x2 x9 x10 x11 x12 x17 xf9 xf11 xf12 xf17 xl
    have x9 : w3.cell? ⟨b, 9, none⟩ = some (.int .i64 x.keeper) := HG.out.box.cell 9
    have x11 : w3.cell? ⟨b, 11, none⟩ = some (.int .i64 x.due) := HG.out.box.cell 11
    have x12 : w3.cell? ⟨b, 12, none⟩ = some (.slice A5 x.out.length c5) := HG.out.box.cell 12
    have x17 : w3.cell? ⟨b, 17, none⟩ = some (.int .i64 x.ops) := HG.out.box.cell 17
    have xf9 : w3.frozen? ⟨b, 9, none⟩ = false := HG.out.box.frozen 9
    have xf11 : w3.frozen? ⟨b, 11, none⟩ = false := HG.out.box.frozen 11
    have xf12 : w3.frozen? ⟨b, 12, none⟩ = false := HG.out.box.frozen 12
    have xf17 : w3.frozen? ⟨b, 17, none⟩ = false := HG.out.box.frozen 17
    have xl : b < w3.heap.size := HG.out.lt
    have HD5 := hide (HG.out.drewN 1)
    have HWA := hide (HD5.out.alloc (.cells #[.int .i64 x.due] 3))
    obtain ⟨uo_, huo_⟩ := HWA.out.ws.o
    have HQo := hide huo_
    clear huo_
    go_wp2_with fail
    go_region_law (first | (refine step_app (by rfl) _ _ 22 (by rfl) ib _ 8 Try.underlying22 HIb.out jb0 jb1 jb2 rfl (by decide) intC_len (by rfl) HQo.out [x.due] (int_srcP (WalkArith.wf_i64 (by omega)) _) (by exact New.nil _ _) (fun q _ hq => by cases hq) _ 1 1 (by rfl) rfl (SrcAt.new (w3.drewN 1) _ _ _ _) (by first | omega | (simp only [List.length_append, List.length_cons, List.length_nil]; omega)) (by decide) HWA.out.sz ?_; intro w5A w5n w5c w5 hn5 hown5 hgb5; have HP5 := hide (HWA.out.app_o hgb5 hown5); have hr5 := hgb5.row HWA.out.box (HWA.out.free (.slice A5 x.out.length c5) (by simp [V7.list])); have w5x9 : w5.cell? ⟨b, 9, none⟩ = some (.int .i64 x.keeper) := hr5.cell 9; have w5x11 : w5.cell? ⟨b, 11, none⟩ = some (.int .i64 x.due) := hr5.cell 11; have w5x12 : w5.cell? ⟨b, 12, none⟩ = some (.slice A5 x.out.length c5) := hr5.cell 12; have w5x17 : w5.cell? ⟨b, 17, none⟩ = some (.int .i64 x.ops) := hr5.cell 17; have w5y9 := hr5.frozen 9; have w5y11 := hr5.frozen 11; have w5y12 := hr5.frozen 12; have w5y17 := hr5.frozen 17; have w5l := hr5.lt; clear hown5 hgb5 hn5 hr5))
    all_goals
      go_wp2
      go_end0
      rw [HE.out]
      exact ⟨rfl, _, ((HP5.out.set_due (x.due + 1)).set_ops (x.ops + 1)).set_keeper 3⟩
  have r2 : (x.keeper == 2) = false := beqf h2
  by_cases h3 : x.keeper = 3
  · have r3 : (x.keeper == 3) = true := beqt h3
    have HE := hide (show x.doKeeper (k : Int) = x.k31 from by unfold CrewWorld.doKeeper; rw [if_neg hp2, if_neg hp, if_neg h0, if_neg h1, if_neg h2, if_pos h3])
    clear h3 h2 h1 h0 hp2 hp
    go_enter Try.func136, Try.ntmps136
    go_wp2
    go_end0
    rw [HE.out]
    exact ⟨rfl, _, ((H.out.set_room (x.room + 1)).set_ops (x.ops + 1)).set_keeper 1⟩
  have r3 : (x.keeper == 3) = false := beqf h3
  have HE := hide (show x.doKeeper (k : Int) = x.k5 from by unfold CrewWorld.doKeeper; rw [if_neg hp2, if_neg hp, if_neg h0, if_neg h1, if_neg h2, if_neg h3])
  clear h3 h2 h1 h0 hp2 hp
  go_enter Try.func136, Try.ntmps136
  go_upto_region 1 with (first | (go_at_call 131; refine HSH.out.mono ?_; rintro e W1 ⟨rfl, v1, h1⟩) | fail)
  have H1 := hide h1
  have y9 : W1.cell? ⟨b, 9, none⟩ = some (.int .i64 x.keeper) := H1.out.box.cell 9
  have yf9 : W1.frozen? ⟨b, 9, none⟩ = false := H1.out.box.frozen 9
  have yl : b < W1.heap.size := H1.out.lt
  clear h1
  go_wp2
  go_end0
  rw [HE.out]
  exact ⟨rfl, _, H1.out.set_keeper 5⟩
end Go.Proofs.Ytpkjjfnfolbcoaa
set_option linter.unusedVariables false
set_option linter.unusedSimpArgs false
namespace Go.Proofs.Ytpkjjfnfolbcoaa
open Go.ChangeShapes Go.WideShapes Go.ChangeAt Go.RowKit

theorem wkN (i : Nat) (h : i < 1000) : IntKind.i64.wrap (i : Int) = (i : Int) ∧ wrap64 (i : Int) = (i : Int) := wk _ (by omega) (by omega)
set_option maxRecDepth 100000 in
set_option maxHeartbeats 4000000 in
theorem move_any (w0 W : World) (b B : Nat) (x : CrewWorld) (v : V7) (h : Wz w0 W b B [] id x v) (hok : x.ok) (who k : Nat) (hw : (who : Int) ≤ x.workers + 3) (hk : (x.ways who)[k]? = some true) : Calls Try.prog 81 #[.pointer (some ⟨b, 0, none⟩), .agg #[.int .i64 (who : Int), .int .i64 (k : Int)]] W (MvOut w0 b B (x.step who (k : Int))) := by
  have HYO := hide (ok_step hok hk).1
  have HOK := hide hok
  obtain ⟨k1, k2, k3, k4, k5, k6, k7⟩ := ok_lens hok
  obtain ⟨k0n, k1n, k2n, k3n, k4n, k5n, k6n⟩ := ok_nums hok
  obtain ⟨s2, s4, s7, sh_, sr_⟩ := ok_some hok
  have SH := hide sh_
  have SR := hide sr_
  clear sh_ sr_
  obtain ⟨vq, vh, vr, vg, vo, vt, vs⟩ := v
  obtain ⟨A1, c1, e1⟩ := h.ws.q.form
  change vq = _ at e1
  subst e1
  obtain ⟨g2, c2, e2, b2, l2, -⟩ := h.ws.h.at0 (by show 0 < x.hands.length; omega)
  change vh = _ at e2
  subst e2
  obtain ⟨A3, c3, e3⟩ := h.ws.r.form
  change vr = _ at e3
  subst e3
  obtain ⟨g4, c4, e4, b4, l4, -⟩ := h.ws.g.at0 (by show 0 < x.ring.length; omega)
  change vg = _ at e4
  subst e4
  obtain ⟨A5, c5, e5⟩ := h.ws.o.form
  change vo = _ at e5
  subst e5
  obtain ⟨A6, c6, e6⟩ := h.ws.t.form
  change vt = _ at e6
  subst e6
  obtain ⟨g7, c7, e7, b7, l7, -⟩ := h.ws.s.at0 (by show 0 < x.shut.length; omega)
  change vs = _ at e7
  subst e7
  have hml := h.lt
  have HK := hide hk
  clear hk
  obtain ⟨W1, hW1⟩ : ∃ W1, W1 = W.alloc (.cells #[.int .i64 (who : Int), .int .i64 (k : Int)] 97) := ⟨_, rfl⟩
  have H := hide (show Wz w0 W1 b B [] id x (⟨.slice A1 x.queue.length c1, .slice (some ⟨g2, 0, none⟩) x.hands.length c2, .slice A3 x.results.length c3, .slice (some ⟨g4, 0, none⟩) x.ring.length c4, .slice A5 x.out.length c5, .slice A6 x.got.length c6, .slice (some ⟨g7, 0, none⟩) x.shut.length c7⟩ : V7) from by rw [hW1]; exact h.alloc _)
  have HM := hide (show Row W1 W.heap.size 97 [.int .i64 (who : Int), .int .i64 (k : Int)] from by rw [hW1]; exact Row.new W _ _)
  have HW1 := hide hW1
  clear hW1
  clear h
  have m0 : W1.cell? ⟨W.heap.size, 0, none⟩ = some (.int .i64 (who : Int)) := HM.out.cell 0
  have m1 : W1.cell? ⟨W.heap.size, 1, none⟩ = some (.int .i64 (k : Int)) := HM.out.cell 1
  have ml : W.heap.size < W1.heap.size := HM.out.lt
  obtain ⟨fp, ho, hl⟩ := H.out.ws.owc (ok_wf hok)
  have HN1 := hide (closerNo_any x _ fp b W1 H.out.box ho hl hok.form)
  have HN2 := hide (keeperNo_any x _ fp b W1 H.out.box ho hl hok.form)
  have HN3 := hide (userNo_any x _ fp b W1 H.out.box ho hl hok.form)
  clear ho hl hok
  have x6 : W1.cell? ⟨b, 6, none⟩ = some (.slice (some ⟨g2, 0, none⟩) x.hands.length c2) := H.out.box.cell 6
  have x7 : W1.cell? ⟨b, 7, none⟩ = some (.int .i64 x.closer) := H.out.box.cell 7
  have x12 : W1.cell? ⟨b, 12, none⟩ = some (.slice A5 x.out.length c5) := H.out.box.cell 12
  have x13 : W1.cell? ⟨b, 13, none⟩ = some (.int .i64 x.user) := H.out.box.cell 13
  have x14 : W1.cell? ⟨b, 14, none⟩ = some (.slice A6 x.got.length c6) := H.out.box.cell 14
  have x17 : W1.cell? ⟨b, 17, none⟩ = some (.int .i64 x.ops) := H.out.box.cell 17
  have xf7 : W1.frozen? ⟨b, 7, none⟩ = false := H.out.box.frozen 7
  have xf12 : W1.frozen? ⟨b, 12, none⟩ = false := H.out.box.frozen 12
  have xf13 : W1.frozen? ⟨b, 13, none⟩ = false := H.out.box.frozen 13
  have xf14 : W1.frozen? ⟨b, 14, none⟩ = false := H.out.box.frozen 14
  have xf17 : W1.frozen? ⟨b, 17, none⟩ = false := H.out.box.frozen 17
  have xl : b < W1.heap.size := H.out.lt
  obtain ⟨wv0, wu0⟩ := wk (x.ops + 1) (by omega) (by omega)
  have hmb : W.heap.size ≠ b := by omega
  by_cases e0 : who = 0
  · have q0 : ((who : Int) == 0) = true := beqt (by omega)
    have q0n : (who == 0) = true := by simpa using e0
    have HE := hide (show x.step who (k : Int) = x.doReader (k : Int) from by unfold CrewWorld.step; rw [if_pos e0])
    have hkk : x.rd[k]? = some true := by
      have h := HK.out
      unfold CrewWorld.ways at h
      rwa [if_pos e0] at h
    have HC := hide (moveReader_any w0 W1 b B x _ H.out HOK.out k hkk)
    clear e0 hkk
    go_enter Try.func81, Try.ntmps81
    go_upto_region 1 with fail
    rw [← HW1.out]
    go_wp2_with (first | (go_at_call 133; refine HC.out.mono ?_; rintro e W5 ⟨rfl, v5, h5⟩; have H5 := hide h5; clear h5) | fail)
    go_end0
    rw [HE.out]
    exact ⟨rfl, _, H5.out⟩
  have q0 : ((who : Int) == 0) = false := beqf (by omega)
  have q0n : (who == 0) = false := by simpa using e0
  by_cases e1 : (who : Int) ≤ x.workers
  · have q1 : ((who : Int) == x.workers + 1) = false := beqf (by omega)
    have q2 : ((who : Int) == x.workers + 2) = false := beqf (by omega)
    have q3 : ((who : Int) == x.workers + 3) = false := beqf (by omega)
    have HE := hide (show x.step who (k : Int) = x.doHand (who - 1) (k : Int) from by unfold CrewWorld.step; rw [if_neg e0, if_pos e1])
    have hkk : (x.hw (x.hnd (who - 1)))[k]? = some true := by
      have h := HK.out
      unfold CrewWorld.ways at h
      rwa [if_neg e0, if_pos e1] at h
    have hil : who - 1 < x.hands.length := by have := SH.out; omega
    have hwm : ((who - 1 : Nat) : Int) = (who : Int) - 1 := by omega
    have HWM := hide hwm
    have HC := hide (moveHand_any w0 W1.drew b B x (⟨.slice A1 x.queue.length c1, .slice (some ⟨g2, 0, none⟩) x.hands.length c2, .slice A3 x.results.length c3, .slice (some ⟨g4, 0, none⟩) x.ring.length c4, .slice A5 x.out.length c5, .slice A6 x.got.length c6, .slice (some ⟨g7, 0, none⟩) x.shut.length c7⟩ : V7) H.out.drew HOK.out (who - 1) k hil hkk g2 c2 rfl)
    clear hkk hwm
    generalize who - 1 = i at *
    have hwi : (who : Int) - 1 = (i : Int) := HWM.out.symm
    obtain ⟨wvj, wuj⟩ := wkN i (Nat.lt_of_lt_of_le hil (Nat.le_trans k2 (by decide)))
    have hiI : (i : Int) < (x.hands.length : Int) := Int.ofNat_lt.2 hil
    have hi0 : (0 : Int) ≤ (i : Int) := Int.natCast_nonneg i
    clear e0 e1
    go_enter Try.func81, Try.ntmps81
    go_upto_region 1 with fail
    rw [← HW1.out]
    go_upto_region 2 with (first | (go_at_call 134; refine (HN1.out).mono ?_; rintro e wq1 ⟨rfl, hwq1⟩; rw [hwq1]; clear hwq1 wq1) | (go_at_call 135; refine (HN2.out).mono ?_; rintro e wq2 ⟨rfl, hwq2⟩; rw [hwq2]; clear hwq2 wq2) | (go_at_call 137; refine (HN3.out).mono ?_; rintro e wq3 ⟨rfl, hwq3⟩; rw [hwq3]; clear hwq3 wq3) | fail)
    go_wp2_with fail
    go_still_tail 11, (by kernel_rfl)
    change wpList _ _ _ _ _ W1.drew
    go_wp2_with (first | (go_at_call 139; refine HC.out.mono ?_; rintro e W5 ⟨rfl, v5, h5⟩; have H5 := hide h5; clear h5) | fail)
    go_end0
    rw [HE.out]
    exact ⟨rfl, _, H5.out⟩
  by_cases e2 : (who : Int) = x.workers + 1
  · have q2 : ((who : Int) == x.workers + 1) = true := beqt e2
    have HE := hide (show x.step who (k : Int) = x.c1 from by unfold CrewWorld.step; rw [if_neg e0, if_neg e1, if_pos e2])
    have HC := hide (shut_any w0 W1 b B x _ H.out s2 s4 s7 (by omega) 1 (by omega))
    clear e0 e1 e2
    go_enter Try.func81, Try.ntmps81
    go_upto_region 1 with fail
    rw [← HW1.out]
    go_upto_region 7 with (first | (go_at_call 134; refine (HN1.out).mono ?_; rintro e wq1 ⟨rfl, hwq1⟩; rw [hwq1]; clear hwq1 wq1) | (go_at_call 135; refine (HN2.out).mono ?_; rintro e wq2 ⟨rfl, hwq2⟩; rw [hwq2]; clear hwq2 wq2) | (go_at_call 137; refine (HN3.out).mono ?_; rintro e wq3 ⟨rfl, hwq3⟩; rw [hwq3]; clear hwq3 wq3) | (go_at_call 131; refine HC.out.mono ?_; rintro e W5 ⟨rfl, v5, h5⟩; have H5 := hide h5; clear h5) | fail)
    have y7 : W5.cell? ⟨b, 7, none⟩ = some (.int .i64 x.closer) := H5.out.box.cell 7
    have yf7 : W5.frozen? ⟨b, 7, none⟩ = false := H5.out.box.frozen 7
    have yl : b < W5.heap.size := H5.out.lt
    go_wp2
    go_end0
    rw [HE.out]
    exact ⟨rfl, _, H5.out.set_closer 1⟩
  have q1 : ((who : Int) == x.workers + 1) = false := beqf e2
  by_cases e3 : (who : Int) = x.workers + 2
  · have q3 : ((who : Int) == x.workers + 2) = true := beqt e3
    have HE := hide (show x.step who (k : Int) = x.doKeeper (k : Int) from by unfold CrewWorld.step; rw [if_neg e0, if_neg e1, if_neg e2, if_pos e3])
    have hkk : x.kw[k]? = some true := by
      have h := HK.out
      unfold CrewWorld.ways at h
      rwa [if_neg e0, if_neg e1, if_neg e2, if_pos e3] at h
    have HC := hide (moveKeeper_any w0 W1 b B x _ H.out HOK.out k hkk)
    clear e0 e1 e2 e3 hkk
    go_enter Try.func81, Try.ntmps81
    go_upto_region 1 with fail
    rw [← HW1.out]
    go_wp2_with (first | (go_at_call 134; refine (HN1.out).mono ?_; rintro e wq1 ⟨rfl, hwq1⟩; rw [hwq1]; clear hwq1 wq1) | (go_at_call 135; refine (HN2.out).mono ?_; rintro e wq2 ⟨rfl, hwq2⟩; rw [hwq2]; clear hwq2 wq2) | (go_at_call 137; refine (HN3.out).mono ?_; rintro e wq3 ⟨rfl, hwq3⟩; rw [hwq3]; clear hwq3 wq3) | (go_at_call 136; refine HC.out.mono ?_; rintro e W5 ⟨rfl, v5, h5⟩; have H5 := hide h5; clear h5) | fail)
    go_end0
    rw [HE.out]
    exact ⟨rfl, _, H5.out⟩
  have q2 : ((who : Int) == x.workers + 2) = false := beqf e3
  have q3 : ((who : Int) == x.workers + 3) = true := beqt (by omega)
  by_cases ek : k = 0
  · have q4 : ((k : Int) == 0) = true := beqt (by omega)
    have q4n : (k == 0) = true := by simpa using ek
    have HE := hide (show x.step who (k : Int) = x.u0 from by unfold CrewWorld.step; rw [if_neg e0, if_neg e1, if_neg e2, if_neg e3, if_pos (by omega)])
    have hq : 0 < x.out.length := by
      have h := HK.out
      unfold CrewWorld.ways at h
      rw [if_neg e0, if_neg e1, if_neg e2, if_neg e3, ek] at h
      by_cases hu : x.user = 1
      · rw [if_pos hu] at h
        simp at h
      · rw [if_neg hu] at h
        simpa using h
    clear e0 e1 e2 e3 ek
    obtain ⟨ib, hib, jb0, jb1, jb2⟩ := info_parts info_int
    have HIb := hide hib
    clear hib
    have hdr : x.out.drop 1 = [] := List.eq_nil_of_length_eq_zero (by rw [List.length_drop]; omega)
    have qw : (Lit.int .i64 (x.out[0]?.getD 0)).wf = true := by
      rw [List.getElem?_eq_getElem hq]
      obtain ⟨fp, ho, -, -⟩ := H.out.ws.o.ow
      exact ints_wf ho _ (List.getElem_mem hq)
    have HQ := hide (fun (W2 : World) (h2 : Wz w0 W2 b B [] id { x with ops := x.ops + 1 } (⟨.slice A1 x.queue.length c1, .slice (some ⟨g2, 0, none⟩) x.hands.length c2, .slice A3 x.results.length c3, .slice (some ⟨g4, 0, none⟩) x.ring.length c4, .slice A5 x.out.length c5, .slice A6 x.got.length c6, .slice (some ⟨g7, 0, none⟩) x.shut.length c7⟩ : V7)) => (show Calls Try.prog 138 #[.pointer (some ⟨b, 12, none⟩)] W2 (fun e W' => e = .returned (.int .i64 (x.out[0]?.getD 0)) ∧ Below B W2 W' ∧ (∀ a o u, W2.cell? ⟨a, o, none⟩ = some u → a ≠ b → W'.cell? ⟨a, o, none⟩ = some u) ∧ ∃ (A' : Option Addr) (d' : Nat), Wz w0 W' b B [] id { x with out := [], ops := x.ops + 1 } { (⟨.slice A1 x.queue.length c1, .slice (some ⟨g2, 0, none⟩) x.hands.length c2, .slice A3 x.results.length c3, .slice (some ⟨g4, 0, none⟩) x.ring.length c4, .slice A5 x.out.length c5, .slice A6 x.got.length c6, .slice (some ⟨g7, 0, none⟩) x.shut.length c7⟩ : V7) with o := .slice A' (x.out.length - 1) d' }) from by
      have h := first_o w0 W2 b B { x with ops := x.ops + 1 } _ h2 hq (by show x.out.length ≤ 1048576; omega)
      rw [show ({ x with ops := x.ops + 1 } : CrewWorld).out.drop 1 = [] from hdr] at h
      exact h))
    have hE : x.u0 = { x with got := x.got ++ [x.out[0]?.getD 0], out := [], ops := x.ops + 1 } := rfl
    rw [hE] at HE
    clear hE hdr
    generalize x.out[0]?.getD 0 = j at HE HQ qw
    go_enter Try.func81, Try.ntmps81
    go_upto_region 1 with fail
    rw [← HW1.out]
    go_upto_region 13 with (first | (go_at_call 134; refine (HN1.out).mono ?_; rintro e wq1 ⟨rfl, hwq1⟩; rw [hwq1]; clear hwq1 wq1) | (go_at_call 135; refine (HN2.out).mono ?_; rintro e wq2 ⟨rfl, hwq2⟩; rw [hwq2]; clear hwq2 wq2) | (go_at_call 137; refine (HN3.out).mono ?_; rintro e wq3 ⟨rfl, hwq3⟩; rw [hwq3]; clear hwq3 wq3) | fail)
    have H2 := hide (H.out.set_ops (x.ops + 1))
    generalize hw2 : World.setCell _ _ _ = W2 at H2 ⊢
    clear hw2 m0 m1 ml x6 x7 x12 x13 x14 x17 xf7 xf12 xf13 xf14 xf17 xl HN1 HN2 HN3 HM HW1
    have HQ2 := hide (HQ.out (W2.drewN 1) (H2.out.drewN 1))
    have x12 : W2.cell? ⟨b, 12, none⟩ = some (.slice A5 x.out.length c5) := H2.out.box.cell 12
    have x14 : W2.cell? ⟨b, 14, none⟩ = some (.slice A6 x.got.length c6) := H2.out.box.cell 14
    have x17 : W2.cell? ⟨b, 17, none⟩ = some (.int .i64 (x.ops + 1)) := H2.out.box.cell 17
    have xf12 : W2.frozen? ⟨b, 12, none⟩ = false := H2.out.box.frozen 12
    have xf14 : W2.frozen? ⟨b, 14, none⟩ = false := H2.out.box.frozen 14
    have xf17 : W2.frozen? ⟨b, 17, none⟩ = false := H2.out.box.frozen 17
    have xl : b < W2.heap.size := H2.out.lt
    go_wp2_with fail
    go_region_law (first | (go_simp; go_at_call 138; refine HQ2.out.mono ?_; rintro e W6 ⟨rfl, hb6, hk6, A', d', h6⟩; have H6 := hide h6; have y14 : W6.cell? ⟨b, 14, none⟩ = some (.slice A6 x.got.length c6) := H6.out.box.cell 14; have yf14 : W6.frozen? ⟨b, 14, none⟩ = false := H6.out.box.frozen 14; have yl : b < W6.heap.size := H6.out.lt; have HWA := hide (H6.out.alloc (.cells #[.int .i64 j] 3)); obtain ⟨ut_, hut_⟩ := HWA.out.ws.t; have HQt := hide hut_; clear hut_ hb6 hk6 h6) | (refine step_app (by rfl) _ _ 22 (by rfl) ib _ 8 Try.underlying22 HIb.out jb0 jb1 jb2 rfl (by decide) intC_len (by rfl) HQt.out [j] (int_srcP qw _) (by exact New.nil _ _) (fun q _ hq => by cases hq) _ 1 1 (by rfl) rfl (SrcAt.new W6 _ _ _ _) (by first | omega | (simp only [List.length_append, List.length_cons, List.length_nil]; omega)) (by decide) HWA.out.sz ?_; intro w5A w5n w5c w5 hn5 hown5 hgb5; have HP5 := hide (HWA.out.app_t hgb5 hown5); have hr5 := hgb5.row HWA.out.box (HWA.out.free (.slice A6 x.got.length c6) (by simp [V7.list])); have w5x14 : w5.cell? ⟨b, 14, none⟩ = some (.slice A6 x.got.length c6) := hr5.cell 14; have w5y14 := hr5.frozen 14; have w5l := hr5.lt; clear hown5 hgb5 hn5 hr5))
    all_goals
      go_wp2
      go_end0
      rw [HE.out]
      exact ⟨rfl, _, HP5.out⟩
  have q4 : ((k : Int) == 0) = false := beqf (by omega)
  have q4n : (k == 0) = false := by simpa using ek
  have HE := hide (show x.step who (k : Int) = x.u1 from by unfold CrewWorld.step; rw [if_neg e0, if_neg e1, if_neg e2, if_neg e3, if_neg (by omega)])
  clear e0 e1 e2 e3 ek
  go_enter Try.func81, Try.ntmps81
  go_upto_region 1 with fail
  rw [← HW1.out]
  go_wp2_with (first | (go_at_call 134; refine (HN1.out).mono ?_; rintro e wq1 ⟨rfl, hwq1⟩; rw [hwq1]; clear hwq1 wq1) | (go_at_call 135; refine (HN2.out).mono ?_; rintro e wq2 ⟨rfl, hwq2⟩; rw [hwq2]; clear hwq2 wq2) | (go_at_call 137; refine (HN3.out).mono ?_; rintro e wq3 ⟨rfl, hwq3⟩; rw [hwq3]; clear hwq3 wq3) | fail)
  go_end0
  rw [HE.out]
  exact ⟨rfl, _, (H.out.set_ops (x.ops + 1)).set_user 1⟩
end Go.Proofs.Ytpkjjfnfolbcoaa
set_option linter.unusedVariables false
set_option linter.unusedSimpArgs false
namespace Go.Proofs.Ytpkjjfnfolbcoaa
open Go.ChangeShapes Go.WideShapes Go.ChangeAt Go.RowKit

set_option maxRecDepth 100000 in
set_option maxHeartbeats 8000000 in
theorem implCrewPlay_k (l : List CrewJob) (A : Option Addr) (n c : Nat) (fp : List Nat) (n1 n2 : Int) (ps : List Int) (A3 : Option Addr) (n3 c3 : Nat) (fp3 : List Nat) (cn : Int) (w : World) (h : Ow w (.s 2 l.length (l.flatMap CrewJob.cells)) (.slice A n c) fp) (hf : Lt fp w.heap.size) (h3 : Ow w (.s 1 ps.length (ps.flatMap intC)) (.slice A3 n3 c3) fp3) (hf3 : Lt fp3 w.heap.size) (hps : ps.length ≤ 1048576) (hw1 : (Lit.int .i64 n1).wf = true) (hw2 : (Lit.int .i64 n2).wf = true) (hwc : (Lit.int .i64 cn).wf = true) :
    Calls Try.prog 29 #[.slice A n c, .int .i64 n1, .int .i64 n2, .slice A3 n3 c3, .int .i64 cn] w (PlayRet l n1 n2 ps cn w) := by
  obtain ⟨rfl, hc, hm⟩ := h.nlen
  obtain ⟨rfl, hc3, hm3⟩ := h3.nlen
  unfold maxLen at hm hm3
  have HO := hide h
  have HP := hide h3
  clear h h3
  go_enter Try.func29, Try.ntmps29
  go_upto_region 1 with fail
  generalize hww1 : w.alloc _ = w1
  have hb1 : Below w.heap.size w w1 := by rw [← hww1]; exact (Below.refl _ _).alloc (Nat.le_refl _) _
  have hs1 : w1.heap.size = w.heap.size + 1 := by rw [← hww1]; simp
  have HS1 := hide hs1
  have HZ1 := hide (show Row w1 w.heap.size 45 toldZero from by rw [← hww1]; exact Row.new w _ _)
  have HB1 := hide hb1
  clear hww1 hb1 hs1
  by_cases hc0 : crewOk (l.length : Int) n1 n2
  rotate_left
  · have HR := hide (show playOf l n1 n2 ps cn = CrewTold.none_ from by unfold playOf; rw [if_neg (by rw [tb_false (fun hh => hc0 hh.1)]; simp)])
    have ct : tb (crewOk (l.length : Int) n1 n2) = false := tb_false hc0
    have HST := hide (implCrewStart_no (l.length : Int) n1 n2 w1 hc0)
    clear hc0
    go_upto_region 2 with (first | (go_at_call 23; refine HST.out.mono ?_; rintro e w2 ⟨us, fq, rfl, ho, hn, hb2⟩; have HO2 := hide ho; have HW2 := hide hb2; have HI2 := hide (owc_info ho); have HU2 := hide (owc_size ho); have H12 := hide (owc_one ho); have HNR := hide (Row.new w2 30 zeroCells); have HZ2_ := hide (HZ1.out.below hb2 HZ1.out.lt); clear ho hn hb2) | (refine wpList_store_row rfl 30 _ _ rfl (w2.heap.size) (us).toArray rfl rfl 30 (zeroCells).toArray HNR.out HI2.out HU2.out.symm H12.out ?_) | fail)
    have hz2 := rowFar' (HZ2_.out.alloc (.cells #[.int .i64 0, .int .i64 0, .int .i64 0, .int .i64 0, .int .i64 0, .slice none 0 0, .slice none 0 0, .int .i64 0, .slice none 0 0, .int .i64 0, .slice none 0 0, .int .i64 0, .slice none 0 0, .int .i64 0, .slice none 0 0, .int .i64 0, .slice none 0 0, .int .i64 0] 30)) (b := w2.heap.size) (fun e => by have := HZ2_.out.lt; omega) us.toArray
    have HZ3 := hide hz2
    have hal : Below w2.heap.size w2 (w2.alloc (.cells #[.int .i64 0, .int .i64 0, .int .i64 0, .int .i64 0, .int .i64 0, .slice none 0 0, .slice none 0 0, .int .i64 0, .slice none 0 0, .int .i64 0, .slice none 0 0, .int .i64 0, .slice none 0 0, .int .i64 0, .slice none 0 0, .int .i64 0, .slice none 0 0, .int .i64 0] 30)) := (Below.refl _ _).alloc (Nat.le_refl _) _
    have HB3 := hide (show Below w.heap.size w ((w2.alloc (.cells #[.int .i64 0, .int .i64 0, .int .i64 0, .int .i64 0, .int .i64 0, .slice none 0 0, .slice none 0 0, .int .i64 0, .slice none 0 0, .int .i64 0, .slice none 0 0, .int .i64 0, .slice none 0 0, .int .i64 0, .slice none 0 0, .int .i64 0, .slice none 0 0, .int .i64 0] 30)).setRow w2.heap.size us.toArray) from (HB1.out.trans (HW2.out.mono HB1.out.size)).trans ((hal.trans (below_of_grown (setRow_grown (grown_refl _ (some w2.heap.size)) us.toArray) (Nat.le_refl _) hal.size)).mono (Nat.le_trans HB1.out.size HW2.out.size)))
    clear hz2 hal HNR H12 HU2 HI2
    generalize (w2.alloc _).setRow _ _ = w3 at HB3 HZ3 ⊢
    have HJ := hide (jobsAre_any l _ _ _ _ w3 (HO.out.below HB3.out hf) (hf.up HB3.out))
    have HZB := hide (fun (W : World) (hb : Below w3.heap.size w3 W) => show Row W w.heap.size 45 toldZero ∧ Below w.heap.size w W from ⟨HZ3.out.below hb HZ3.out.lt, HB3.out.trans (hb.mono HB3.out.size)⟩)
    by_cases hj0 : jobsOk l
    · rw [tb_true hj0] at HJ
      clear hj0
      go_wp2_with (first | (go_at_call 78; refine HJ.out.mono ?_; rintro e w4 ⟨rfl, hb4⟩; have HZ2 := hide (HZB.out w4 hb4).1; have HB2 := hide (HZB.out w4 hb4).2; have lz4 := HZ2.out.lt; clear hb4) | (refine wpList_store_row rfl 45 _ _ rfl (w.heap.size) (toldZero).toArray rfl rfl 45 (toldZero).toArray HZ2.out (by kernel_rfl) rfl toldZero_one ?_) | fail)
      refine bodyPost_ret (ret_row rfl _ _ w.heap.size 45 toldZero (Row.setRow' (cs := toldZero) HZ2.out toldZero) _ rfl Try.underlying45 rfl (by kernel_rfl)) rfl ?_
      unfold PlayRet
      rw [HR.out]
      have hg := setRow_grown (grown_refl w4 (some w.heap.size)) toldZero.toArray
      exact ⟨toldZero, [], rfl, crewNone_ow _, New.nil _ _, HB2.out.trans (below_of_grown hg (Nat.le_refl _) HB2.out.size)⟩
    · rw [tb_false hj0] at HJ
      clear hj0
      go_wp2_with (first | (go_at_call 78; refine HJ.out.mono ?_; rintro e w4 ⟨rfl, hb4⟩; have HZ2 := hide (HZB.out w4 hb4).1; have HB2 := hide (HZB.out w4 hb4).2; have lz4 := HZ2.out.lt; clear hb4) | (refine wpList_store_row rfl 45 _ _ rfl (w.heap.size) (toldZero).toArray rfl rfl 45 (toldZero).toArray HZ2.out (by kernel_rfl) rfl toldZero_one ?_) | fail)
      refine bodyPost_ret (ret_row rfl _ _ w.heap.size 45 toldZero (Row.setRow' (cs := toldZero) HZ2.out toldZero) _ rfl Try.underlying45 rfl (by kernel_rfl)) rfl ?_
      unfold PlayRet
      rw [HR.out]
      have hg := setRow_grown (grown_refl w4 (some w.heap.size)) toldZero.toArray
      exact ⟨toldZero, [], rfl, crewNone_ow _, New.nil _ _, HB2.out.trans (below_of_grown hg (Nat.le_refl _) HB2.out.size)⟩
  have HST := hide (implCrewStart_ws (l.length : Int) n1 n2 w1 hc0)
  have HC0 := hide hc0
  clear hc0
  go_upto_region 2 with (first | (go_at_call 23; refine HST.out.mono ?_; rintro e w2 ⟨v, rfl, hws, hb2⟩; have HWS := hide hws; have HW2 := hide hb2; have HNR := hide (Row.new w2 30 zeroCells); have HONE := hide hws.one; clear hws hb2) | (refine wpList_store_row rfl 30 _ _ rfl (w2.heap.size) (v.cells (crewAt (l.length : Int) n1 n2)).toArray rfl rfl 30 (zeroCells).toArray HNR.out (by kernel_rfl) rfl HONE.out ?_) | fail)
  have hal : Below w2.heap.size w2 (w2.alloc (.cells #[.int .i64 0, .int .i64 0, .int .i64 0, .int .i64 0, .int .i64 0, .slice none 0 0, .slice none 0 0, .int .i64 0, .slice none 0 0, .int .i64 0, .slice none 0 0, .int .i64 0, .slice none 0 0, .int .i64 0, .slice none 0 0, .int .i64 0, .slice none 0 0, .int .i64 0] 30)) := (Below.refl _ _).alloc (Nat.le_refl _) _
  have hw2s := HW2.out.size
  have hw1s := HB1.out.size
  have hbn : Below w2.heap.size w2 ((w2.alloc (.cells #[.int .i64 0, .int .i64 0, .int .i64 0, .int .i64 0, .int .i64 0, .slice none 0 0, .slice none 0 0, .int .i64 0, .slice none 0 0, .int .i64 0, .slice none 0 0, .int .i64 0, .slice none 0 0, .int .i64 0, .slice none 0 0, .int .i64 0, .slice none 0 0, .int .i64 0] 30)).setRow w2.heap.size (v.cells (crewAt (l.length : Int) n1 n2)).toArray) := hal.trans (below_of_grown (setRow_grown (grown_refl _ (some w2.heap.size)) _) (Nat.le_refl _) hal.size)
  have HB3 := hide (show Below w.heap.size w ((w2.alloc (.cells #[.int .i64 0, .int .i64 0, .int .i64 0, .int .i64 0, .int .i64 0, .slice none 0 0, .slice none 0 0, .int .i64 0, .slice none 0 0, .int .i64 0, .slice none 0 0, .int .i64 0, .slice none 0 0, .int .i64 0, .slice none 0 0, .int .i64 0, .slice none 0 0, .int .i64 0] 30)).setRow w2.heap.size (v.cells (crewAt (l.length : Int) n1 n2)).toArray) from HB1.out.trans ((HW2.out.mono hw1s).trans (hbn.mono (Nat.le_trans hw1s hw2s))))
  have HZ3 := hide (show Row ((w2.alloc (.cells #[.int .i64 0, .int .i64 0, .int .i64 0, .int .i64 0, .int .i64 0, .slice none 0 0, .slice none 0 0, .int .i64 0, .slice none 0 0, .int .i64 0, .slice none 0 0, .int .i64 0, .slice none 0 0, .int .i64 0, .slice none 0 0, .int .i64 0, .slice none 0 0, .int .i64 0] 30)).setRow w2.heap.size (v.cells (crewAt (l.length : Int) n1 n2)).toArray) w.heap.size 45 toldZero from (HZ1.out.below HW2.out HZ1.out.lt).below hbn (Nat.lt_of_lt_of_le HZ1.out.lt hw2s))
  have HBX := hide (show Row ((w2.alloc (.cells #[.int .i64 0, .int .i64 0, .int .i64 0, .int .i64 0, .int .i64 0, .slice none 0 0, .slice none 0 0, .int .i64 0, .slice none 0 0, .int .i64 0, .slice none 0 0, .int .i64 0, .slice none 0 0, .int .i64 0, .slice none 0 0, .int .i64 0, .slice none 0 0, .int .i64 0] 30)).setRow w2.heap.size (v.cells (crewAt (l.length : Int) n1 n2)).toArray) w2.heap.size 30 (v.cells (crewAt (l.length : Int) n1 n2)) from HNR.out.setRow' _)
  have HWS3 := hide (show Ws ((w2.alloc (.cells #[.int .i64 0, .int .i64 0, .int .i64 0, .int .i64 0, .int .i64 0, .slice none 0 0, .slice none 0 0, .int .i64 0, .slice none 0 0, .int .i64 0, .slice none 0 0, .int .i64 0, .slice none 0 0, .int .i64 0, .slice none 0 0, .int .i64 0, .slice none 0 0, .int .i64 0] 30)).setRow w2.heap.size (v.cells (crewAt (l.length : Int) n1 n2)).toArray) w1.heap.size (crewAt (l.length : Int) n1 n2) v from (HWS.out.below hbn).mono (by omega))
  have hvf := HWS.out.freeNew (Nat.le_refl w2.heap.size)
  have hs3 := hbn.size
  generalize hbb : w2.heap.size = b at *
  generalize (w2.alloc _).setRow _ _ = w3 at HB3 HZ3 HBX HWS3 hs3 ⊢
  have hzB : w.heap.size < w1.heap.size := HZ1.out.lt
  have HRZ := hide (show Wz w3 w3 b w1.heap.size [] id (crewAt (l.length : Int) n1 n2) v from ⟨HBX.out, HWS3.out, hvf, (fun r hr => by cases hr), Below.refl _ _, by omega, by omega⟩)
  generalize w1.heap.size = B at *
  have lz := HZ3.out.lt
  have lb := HRZ.out.lt
  have HJ := hide (jobsAre_any l _ _ _ _ w3 (HO.out.below HB3.out hf) (hf.up HB3.out))
  have HZB := hide (fun (W : World) (hb : Below w3.heap.size w3 W) => show Row W w.heap.size 45 toldZero ∧ Below w.heap.size w W from ⟨HZ3.out.below hb HZ3.out.lt, HB3.out.trans (hb.mono HB3.out.size)⟩)
  clear hal hbn hvf HBX HWS3 HST HNR HONE HWS HW2 hbb
  have ct : tb (crewOk (l.length : Int) n1 n2) = true := tb_true HC0.out
  by_cases hj0 : jobsOk l
  rotate_left
  · have HR := hide (show playOf l n1 n2 ps cn = CrewTold.none_ from by unfold playOf; rw [if_neg (by rw [tb_false (fun hh => hj0 hh.2.1)]; simp)])
    rw [tb_false hj0] at HJ
    clear hj0
    go_wp2_with (first | (go_at_call 78; refine HJ.out.mono ?_; rintro e w4 ⟨rfl, hb4⟩; have HZ2 := hide (HZB.out w4 hb4).1; have HB2 := hide (HZB.out w4 hb4).2; have lz4 := HZ2.out.lt; clear hb4) | (refine wpList_store_row rfl 45 _ _ rfl (w.heap.size) (toldZero).toArray rfl rfl 45 (toldZero).toArray HZ2.out (by kernel_rfl) rfl toldZero_one ?_) | fail)
    refine bodyPost_ret (ret_row rfl _ _ w.heap.size 45 toldZero (Row.setRow' (cs := toldZero) HZ2.out toldZero) _ rfl Try.underlying45 rfl (by kernel_rfl)) rfl ?_
    unfold PlayRet
    rw [HR.out]
    have hg := setRow_grown (grown_refl w4 (some w.heap.size)) toldZero.toArray
    exact ⟨toldZero, [], rfl, crewNone_ow _, New.nil _ _, HB2.out.trans (below_of_grown hg (Nat.le_refl _) HB2.out.size)⟩
  rw [tb_true hj0] at HJ
  have HJ0 := hide hj0
  clear hj0
  by_cases hp0 : ps.length ≤ 2000
  rotate_left
  · have HR := hide (show playOf l n1 n2 ps cn = CrewTold.none_ from by unfold playOf; rw [if_neg (by rw [tb_false (fun hh => hp0 hh.2.2)]; simp)])
    have dp : decide ((2000 : Int) < (ps.length : Int)) = true := dec_true (by omega)
    have dpn : decide (2000 < ps.length) = true := dec_true (by omega)
    go_wp2_with (first | (go_at_call 78; refine HJ.out.mono ?_; rintro e w4 ⟨rfl, hb4⟩; have HZ2 := hide (HZB.out w4 hb4).1; have HB2 := hide (HZB.out w4 hb4).2; have lz4 := HZ2.out.lt; clear hb4) | (refine wpList_store_row rfl 45 _ _ rfl (w.heap.size) (toldZero).toArray rfl rfl 45 (toldZero).toArray HZ2.out (by kernel_rfl) rfl toldZero_one ?_) | fail)
    refine bodyPost_ret (ret_row rfl _ _ w.heap.size 45 toldZero (Row.setRow' (cs := toldZero) HZ2.out toldZero) _ rfl Try.underlying45 rfl (by kernel_rfl)) rfl ?_
    unfold PlayRet
    rw [HR.out]
    have hg := setRow_grown (grown_refl w4 (some w.heap.size)) toldZero.toArray
    exact ⟨toldZero, [], rfl, crewNone_ow _, New.nil _ _, HB2.out.trans (below_of_grown hg (Nat.le_refl _) HB2.out.size)⟩
  have dp : decide ((2000 : Int) < (ps.length : Int)) = false := dec_false (by omega)
  have dpn : decide (2000 < ps.length) = false := dec_false (by omega)
  have HR := hide (show playOf l n1 n2 ps cn = playTold l (crewAt (l.length : Int) n1 n2) ps cn from by unfold playOf; rw [if_pos (tb_true ⟨HC0.out, HJ0.out, hp0⟩)])
  have HSO := hide (start_ok HC0.out)
  go_upto_region 4 with (first | (go_at_call 78; refine HJ.out.mono ?_; rintro e w4 ⟨rfl, hb4⟩; have HRZ4 := hide (HRZ.out.below hb4); have HB4 := hide (HZB.out w4 hb4).2; have HZ4 := hide (HZB.out w4 hb4).1; clear hb4) | fail)
  clear HJ HZB ct dp dpn lz lb
  have HRF := hide (show Wz w4 w4 b B [] id (crewAt (l.length : Int) n1 n2) v from ⟨HRZ4.out.box, HRZ4.out.ws, HRZ4.out.free, HRZ4.out.rows, Below.refl _ _, HRZ4.out.hb, HRZ4.out.sz⟩)
  generalize hx0 : crewAt (l.length : Int) n1 n2 = x0 at *
  have HX0 := hide hx0
  clear hx0 HRZ4 HRZ
  have hwB : w.heap.size ≤ B := by omega
  go_upto_region 6 with fail
  go_loopw [13] (fun i wr => ∃ (t : Nat) (v' : V7), i = .int .i64 (t : Int) ∧ PlayTo x0 ps cn t ∧ t ≤ 674 ∧ Wz w4 wr b B [] id (runAt x0 ps cn t) v') (fun i _ => 675 - (intOf i).toNat)
  case atStart => exact ⟨0, _, rfl, PlayTo.zero _ _ _, by omega, HRF.out⟩
  case round =>
    obtain ⟨t, v1, rfl, hpt, ht, hrz⟩ := hrel
    have HPT := hide hpt
    have HRA := hide hrz
    have HYK := hide (run_ok HSO.out ps cn t hpt).1
    have HRI := hide (show runIn x0 ps cn t = (runAt x0 ps cn t).cutAt t cn from rfl)
    generalize runAt x0 ps cn t = y at HRA HYK HRI
    clear hrz hpt
    have la := HRA.out.lt
    have x13 : wr.cell? ⟨b, 13, none⟩ = some (.int .i64 y.user) := HRA.out.box.cell 13
    have hyu := HYK.out.form.user
    by_cases hcn : (t : Int) = cn
    · have qn : ((t : Int) == cn) = true := beqt hcn
      by_cases hu : y.user = 0
      · have u1 : (y.user != 1) = true := bnet (by omega)
        have u2 : (y.user == 1) = false := beqf (by omega)
        have HCE := hide (show y.cutAt t cn = y.cut from by unfold CrewWorld.cutAt; rw [if_pos ⟨hcn, hu⟩])
        have HCN := hide (cancel_any w4 wr b B y v1 HRA.out HYK.out)
        clear hcn
        go_upto_region 8 with (first | (go_at_call 79; refine HCN.out.mono ?_; rintro e W ⟨rfl, v2, h2⟩; have H2 := hide h2; clear h2) | fail)
        have hst := H2.out
        rw [← HCE.out, ← HRI.out] at hst
        have HRW := hide hst
        clear hst H2
        have hri := runIn_ok HSO.out HPT.out
        have hgot : (runIn x0 ps cn t).got.length ≤ l.length := by
          have h := HPT.out
          rw [← HX0.out] at h ⊢
          exact got_take HC0.out h
        obtain ⟨z, hz⟩ : ∃ z, z = runIn x0 ps cn t := ⟨_, rfl⟩
        have HZE := hide hz.symm
        rw [← hz] at HRW hri hgot
        clear hz
        have HZK := hide hri
        obtain ⟨z1, z2, z3, z4, z5, z6, z7⟩ := ok_lens hri
        obtain ⟨y1, y2, y3, y4, y5, y6, y7⟩ := ok_nums hri
        have hml : z.moves.length ≤ 3 * (z.workers.toNat + 4) := movesTo_len z _
        have hml2 : z.moves.length ≤ 36 := by omega
        obtain ⟨fpz, hoz, hlz⟩ := HRW.out.ws.owc (ok_wf hri)
        have HCM := hide (implMovesOf_any z _ fpz b W HRW.out.box hoz hlz hri.form)
        have HWB := hide (fun (W' : World) (hb : Below W.heap.size W W') => HRW.out.below hb)
        have lw := HRW.out.lt
        clear hri hml hoz hlz
        go_upto_region 9 with (first | (go_at_call 80; refine HCM.out.mono ?_; rintro e w10 ⟨v10, fq10, rfl, o10, n10, b10⟩; obtain ⟨A10, c10, e10, -, -⟩ := o10.slice; subst e10; have HO10 := hide o10; have HN10 := hide n10; have HR10 := hide (HWB.out w10 b10); have lt10 := HR10.out.lt; clear o10 n10 b10) | fail)
        have HFR := hide (show Below w.heap.size w w10 from HB4.out.trans (HR10.out.fr.mono hwB))
        by_cases hm0 : z.moves.length = 0
        · have qm : ((z.moves.length : Int) == 0) = true := beqt (by omega)
          have HPE := hide (show PlayEnd x0 ps cn t from ⟨HPT.out, by rw [HZE.out]; exact hm0⟩)
          obtain ⟨A6, c6, e6⟩ := HR10.out.ws.t.form
          have x14 : w10.cell? ⟨b, 14, none⟩ = some (.slice A6 z.got.length c6) := by
            have h : w10.cell? ⟨b, 14, none⟩ = some v2.t := HR10.out.box.cell 14
            rw [h, e6]
          have HX17 := hide (show w10.cell? ⟨b, 17, none⟩ = some (.int .i64 z.ops) from HR10.out.box.cell 17)
          obtain ⟨fqt, hot, hsub⟩ := Ow.takeN CrewJob.cells_len (HO.out.below HFR.out hf) z.got.length hgot
          have htl : (l.take z.got.length).length = z.got.length := by rw [List.length_take]; omega
          have HTD := hide (show Calls Try.prog 83 #[.slice A z.got.length c] w10 (ToldRet (l.take z.got.length) w10) from by
            have h := told_any (l.take z.got.length) A (l.take z.got.length).length c fqt w10 hot ((hf.up HFR.out).sub hsub) (jobsOk_take HJ0.out _)
            rw [htl] at h
            exact h)
          have hg0 : (0 : Int) ≤ (z.got.length : Int) := by omega
          have hgc : (z.got.length : Int) ≤ (c : Int) := by omega
          have HRS := hide (show Row w10 w.heap.size 45 toldZero from HZ4.out.below HR10.out.fr hzB)
          clear hot hsub htl e6
          go_upto_region 12 with (first | (go_at_call 83; refine HTD.out.mono ?_; rintro e w11 ⟨us11, fq11, rfl, o11, n11, b11⟩; obtain ⟨B1, d1, B2, d2, f1, f2, e11, o1, o2, x3, x4, x5, efp⟩ := o11.oCrewTold; subst e11; have HN11 := hide n11; have HO1 := hide o1; have HO2 := hide o2; have HEF := hide efp; have HWF := hide x3; have HB11 := hide b11; have HNT := hide (Row.new w11 45 toldZero); clear o11 n11 b11 o1 o2 efp) | (refine wpList_store_row rfl 45 _ _ rfl (w11.heap.size) ([.bool (toldOf (l.take z.got.length)).ok, .slice B1 (toldOf (l.take z.got.length)).items.length d1, .slice B2 (toldOf (l.take z.got.length)).dead.length d2, .int .i64 (toldOf (l.take z.got.length)).jobs, .int .i64 (toldOf (l.take z.got.length)).steps, .int .i64 (toldOf (l.take z.got.length)).ops] : List Value).toArray rfl rfl 45 (toldZero).toArray HNT.out (by kernel_rfl) rfl (by simp [Value.oneCell']) ?_) | fail)
          have HT15 := hide (show Row ((w11.alloc (.cells #[.bool false, .slice none 0 0, .slice none 0 0, .int .i64 0, .int .i64 0, .int .i64 0] 45)).setRow w11.heap.size ([.bool (toldOf (l.take z.got.length)).ok, .slice B1 (toldOf (l.take z.got.length)).items.length d1, .slice B2 (toldOf (l.take z.got.length)).dead.length d2, .int .i64 (toldOf (l.take z.got.length)).jobs, .int .i64 (toldOf (l.take z.got.length)).steps, .int .i64 (toldOf (l.take z.got.length)).ops] : List Value).toArray) w11.heap.size 45 [.bool (toldOf (l.take z.got.length)).ok, .slice B1 (toldOf (l.take z.got.length)).items.length d1, .slice B2 (toldOf (l.take z.got.length)).dead.length d2, .int .i64 (toldOf (l.take z.got.length)).jobs, .int .i64 (toldOf (l.take z.got.length)).steps, .int .i64 (toldOf (l.take z.got.length)).ops] from HNT.out.setRow' _)
          have HB15 := hide (show Below w11.heap.size w11 ((w11.alloc (.cells #[.bool false, .slice none 0 0, .slice none 0 0, .int .i64 0, .int .i64 0, .int .i64 0] 45)).setRow w11.heap.size ([.bool (toldOf (l.take z.got.length)).ok, .slice B1 (toldOf (l.take z.got.length)).items.length d1, .slice B2 (toldOf (l.take z.got.length)).dead.length d2, .int .i64 (toldOf (l.take z.got.length)).jobs, .int .i64 (toldOf (l.take z.got.length)).steps, .int .i64 (toldOf (l.take z.got.length)).ops] : List Value).toArray) from ((Below.refl _ _).alloc (Nat.le_refl _) _).trans (below_of_grown (setRow_grown (grown_refl _ (some w11.heap.size)) _) (Nat.le_refl _) (by rw [World.size_alloc]; omega)))
          have hs11 := HB11.out.size
          have hzl := HRS.out.lt
          generalize World.setRow _ _ _ = W15 at HT15 HB15 ⊢
          generalize hg17 : w11.heap.size = g17 at HT15 hs11 ⊢
          have HG17 := hide hg17
          clear hg17
          have HB1015 := hide (show Below w10.heap.size w10 W15 from HB11.out.trans (HB15.out.mono HB11.out.size))
          have x17 : W15.cell? ⟨b, 17, none⟩ = some (.int .i64 z.ops) := kc HX17.out HB1015.out lt10
          have t4 : W15.cell? ⟨g17, 4, none⟩ = some (.int .i64 (toldOf (l.take z.got.length)).steps) := HT15.out.cell 4
          have t5 : W15.cell? ⟨g17, 5, none⟩ = some (.int .i64 (toldOf (l.take z.got.length)).ops) := HT15.out.cell 5
          have tf4 : W15.frozen? ⟨g17, 4, none⟩ = false := HT15.out.frozen 4
          have tf5 : W15.frozen? ⟨g17, 5, none⟩ = false := HT15.out.frozen 5
          have tl := HT15.out.lt
          have HZ15 := hide (HRS.out.below HB1015.out hzl)
          have hzl15 := HZ15.out.lt
          have hbl15 : b < W15.heap.size := by omega
          have hgz : w.heap.size ≠ g17 := by omega
          have hgb : b ≠ g17 := by omega
          go_wp2_with fail
          go_region_law (fail)
          all_goals
            go_upto_region 13 with fail
            have HT17 := hide (show Row ((W15.setCell ⟨g17, 4, none⟩ (.int .i64 (t : Int))).setCell ⟨g17, 5, none⟩ (.int .i64 z.ops)).drew g17 45 [.bool (toldOf (l.take z.got.length)).ok, .slice B1 (toldOf (l.take z.got.length)).items.length d1, .slice B2 (toldOf (l.take z.got.length)).dead.length d2, .int .i64 (toldOf (l.take z.got.length)).jobs, .int .i64 (t : Int), .int .i64 z.ops] from (HT15.out.set 4 (.int .i64 (t : Int))).set 5 (.int .i64 z.ops))
            have HZ17 := hide (show Row ((W15.setCell ⟨g17, 4, none⟩ (.int .i64 (t : Int))).setCell ⟨g17, 5, none⟩ (.int .i64 z.ops)).drew w.heap.size 45 toldZero from (HZ15.out.far (p := ⟨g17, 4, none⟩) hgz (.int .i64 (t : Int))).far (p := ⟨g17, 5, none⟩) hgz (.int .i64 z.ops))
            have HB17 := hide (show Below w11.heap.size w11 ((W15.setCell ⟨g17, 4, none⟩ (.int .i64 (t : Int))).setCell ⟨g17, 5, none⟩ (.int .i64 z.ops)).drew from below_drewN ((HB15.out.setCell (p := ⟨g17, 4, none⟩) (Nat.le_of_eq HG17.out) (.int .i64 (t : Int))).setCell (p := ⟨g17, 5, none⟩) (Nat.le_of_eq HG17.out) (.int .i64 z.ops)) 1)
            generalize World.drew _ = W17 at HT17 HZ17 HB17 ⊢
            have tl17 := HT17.out.lt
            have zl17 := HZ17.out.lt
            have HONE := hide (show ([.bool (toldOf (l.take z.got.length)).ok, .slice B1 (toldOf (l.take z.got.length)).items.length d1, .slice B2 (toldOf (l.take z.got.length)).dead.length d2, .int .i64 (toldOf (l.take z.got.length)).jobs, .int .i64 (t : Int), .int .i64 z.ops] : List Value).toArray.all (·.oneCell') = true from by simp [Value.oneCell'])
            go_wp2_with (first | (refine wpList_load_row rfl 45 _ rfl (g17) rfl 45 ([.bool (toldOf (l.take z.got.length)).ok, .slice B1 (toldOf (l.take z.got.length)).items.length d1, .slice B2 (toldOf (l.take z.got.length)).dead.length d2, .int .i64 (toldOf (l.take z.got.length)).jobs, .int .i64 (t : Int), .int .i64 z.ops] : List Value).toArray (0, 0) _ HT17.out Try.underlying45 rfl (by kernel_rfl) ?_) | (refine wpList_store_row rfl 45 _ _ rfl (w.heap.size) ([.bool (toldOf (l.take z.got.length)).ok, .slice B1 (toldOf (l.take z.got.length)).items.length d1, .slice B2 (toldOf (l.take z.got.length)).dead.length d2, .int .i64 (toldOf (l.take z.got.length)).jobs, .int .i64 (t : Int), .int .i64 z.ops] : List Value).toArray rfl rfl 45 (toldZero).toArray HZ17.out (by kernel_rfl) rfl HONE.out ?_) | fail)
            refine bodyPost_ret (ret_row rfl _ _ w.heap.size 45 [.bool (toldOf (l.take z.got.length)).ok, .slice B1 (toldOf (l.take z.got.length)).items.length d1, .slice B2 (toldOf (l.take z.got.length)).dead.length d2, .int .i64 (toldOf (l.take z.got.length)).jobs, .int .i64 (t : Int), .int .i64 z.ops] (HZ17.out.setRow' [.bool (toldOf (l.take z.got.length)).ok, .slice B1 (toldOf (l.take z.got.length)).items.length d1, .slice B2 (toldOf (l.take z.got.length)).dead.length d2, .int .i64 (toldOf (l.take z.got.length)).jobs, .int .i64 (t : Int), .int .i64 z.ops]) _ rfl Try.underlying45 rfl (by kernel_rfl)) rfl ?_
            unfold PlayRet
            rw [HR.out, playTold_eq HPE.out, HZE.out]
            have hg := setRow_grown (grown_refl W17 (some w.heap.size)) ([.bool (toldOf (l.take z.got.length)).ok, .slice B1 (toldOf (l.take z.got.length)).items.length d1, .slice B2 (toldOf (l.take z.got.length)).dead.length d2, .int .i64 (toldOf (l.take z.got.length)).jobs, .int .i64 (t : Int), .int .i64 z.ops] : List Value).toArray
            have hnz : w.heap.size ∉ fq11 := fun hm => by have := (HN11.out.fr _ hm).1; omega
            have hbw : Below w.heap.size w W17 := HFR.out.trans ((HB11.out.trans (HB17.out.mono HB11.out.size)).mono HFR.out.size)
            have h1 := OwC.mCrewTold (x := { toldOf (l.take z.got.length) with steps := (t : Int), ops := z.ops }) HO1.out HO2.out HWF.out (show (Lit.int .i64 (t : Int)).wf = true from WalkArith.wf_i64 (by omega)) (show (Lit.int .i64 z.ops).wf = true from WalkArith.wf_i64 (by omega))
            rw [← show fq11 = _ from HEF.out] at h1
            have h2 := (h1.below HB17.out HN11.out.lt).grown hg (HN11.out.lt.up HB17.out) hnz
            exact ⟨_, fq11, rfl, h2, ((HN11.out.below HB17.out HN11.out.lt).grown hg (fun g e => by injection e with e; subst e; exact hnz)).mono (by omega), hbw.trans (below_of_grown hg (Nat.le_refl _) hbw.size)⟩
        · have hmp : 0 < z.moves.length := by omega
          have qm : ((z.moves.length : Int) == 0) = false := beqf (by omega)
          have qme : ¬ (z.moves = []) := fun e => hm0 (by rw [e]; rfl)
          obtain ⟨who, k, hpk, hwlt, hway, hgo⟩ := go_move ps t hmp
          have hplt := pickAt_lt ps t hmp
          rw [List.getElem?_eq_getElem hplt] at hpk
          have hel := Option.some.inj hpk
          have HST := hide (show runAt x0 ps cn (t + 1) = z.step who (k : Int) from by rw [runAt_succ, HZE.out]; exact hgo)
          obtain ⟨gm, offm, um, fm, eA, hgm, -, hul, hcm, hom⟩ := HO10.out.elem CrewMove.cells_len hplt
          subst eA
          rw [hel] at hom
          obtain ⟨rfl, wf1, wf2, -⟩ := hom.oCrewMove
          have c0 := hcm 0 _ rfl
          have c1 := hcm 1 _ rfl
          simp only [Nat.add_zero] at c0
          have HPK := hide (implPick_any ps A3 ps.length c3 fp3 w10 (HP.out.below HFR.out hf3) (hf3.up HFR.out) t z.moves.length hmp (by omega) (by omega) hps)
          have HR10D := hide (fun (W' : World) (hb : Below w10.heap.size w10 W') => (show Wz w4 W' b B [] id z v2 ∧ (∀ o v, w10.cell? ⟨gm, o, none⟩ = some v → W'.cell? ⟨gm, o, none⟩ = some v) from ⟨HR10.out.below hb, fun o v h => kc h hb (cell_lt h)⟩))
          have hgml : gm < w10.heap.size := HN10.out.lt _ hgm
          have hwho : (who : Int) ≤ z.workers + 3 := by omega
          clear hpk hel hcm hom hul hgm hgo
          generalize pickAt ps t z.moves.length = p at *
          have hpI : (p : Int) < (z.moves.length : Int) := by omega
          have hpI0 : (0 : Int) ≤ (p : Int) := by omega
          have HC0C := hide c0
          have HC1C := hide c1
          go_wp2_with (first | (go_at_call 82; refine HPK.out.mono ?_; rintro e w11 ⟨rfl, b11⟩; have hh11 := HR10D.out w11 b11; have HR11 := hide hh11.1; have d0 := hh11.2 _ _ HC0C.out; have d1 := hh11.2 _ _ HC1C.out; have hgm11 : gm < w11.heap.size := Nat.lt_of_lt_of_le hgml b11.size; have HMV := hide (move_any w4 w11 b B z v2 HR11.out HZK.out who k hwho hway); clear b11 hh11) | (go_at_call 81; refine HMV.out.mono ?_; rintro e w12 ⟨rfl, v3, h3⟩; have H3 := hide h3; clear h3) | fail)
          go_roundw
          case rel =>
            have hp2 := HPT.out.succ (by rw [HZE.out]; exact hmp)
            refine ⟨t + 1, v3, by go_num, hp2, ?_, ?_⟩
            · rw [← HX0.out] at hp2
              exact played_le HC0.out hp2
            · rw [HST.out]
              exact H3.out
          case measure => simp [intOf]; omega
      · have u1 : (y.user != 1) = false := bnef (by omega)
        have u2 : (y.user == 1) = true := beqt (by omega)
        have HCE := hide (show y.cutAt t cn = y from by unfold CrewWorld.cutAt; rw [if_neg (fun hh => hu hh.2)])
        clear hcn
        go_upto_region 8 with fail
        have hst := HRA.out
        rw [← show y.cutAt t cn = y from HCE.out, ← HRI.out] at hst
        obtain ⟨W, v2, hW, hr9⟩ : ∃ W v2, W = wr ∧ Wz w4 W b B [] id (runIn x0 ps cn t) v2 := ⟨wr, v1, rfl, hst⟩
        subst hW
        have HRW := hide hr9
        clear hst hr9
        have hri := runIn_ok HSO.out HPT.out
        have hgot : (runIn x0 ps cn t).got.length ≤ l.length := by
          have h := HPT.out
          rw [← HX0.out] at h ⊢
          exact got_take HC0.out h
        obtain ⟨z, hz⟩ : ∃ z, z = runIn x0 ps cn t := ⟨_, rfl⟩
        have HZE := hide hz.symm
        rw [← hz] at HRW hri hgot
        clear hz
        have HZK := hide hri
        obtain ⟨z1, z2, z3, z4, z5, z6, z7⟩ := ok_lens hri
        obtain ⟨y1, y2, y3, y4, y5, y6, y7⟩ := ok_nums hri
        have hml : z.moves.length ≤ 3 * (z.workers.toNat + 4) := movesTo_len z _
        have hml2 : z.moves.length ≤ 36 := by omega
        obtain ⟨fpz, hoz, hlz⟩ := HRW.out.ws.owc (ok_wf hri)
        have HCM := hide (implMovesOf_any z _ fpz b W HRW.out.box hoz hlz hri.form)
        have HWB := hide (fun (W' : World) (hb : Below W.heap.size W W') => HRW.out.below hb)
        have lw := HRW.out.lt
        clear hri hml hoz hlz
        go_upto_region 9 with (first | (go_at_call 80; refine HCM.out.mono ?_; rintro e w10 ⟨v10, fq10, rfl, o10, n10, b10⟩; obtain ⟨A10, c10, e10, -, -⟩ := o10.slice; subst e10; have HO10 := hide o10; have HN10 := hide n10; have HR10 := hide (HWB.out w10 b10); have lt10 := HR10.out.lt; clear o10 n10 b10) | fail)
        have HFR := hide (show Below w.heap.size w w10 from HB4.out.trans (HR10.out.fr.mono hwB))
        by_cases hm0 : z.moves.length = 0
        · have qm : ((z.moves.length : Int) == 0) = true := beqt (by omega)
          have HPE := hide (show PlayEnd x0 ps cn t from ⟨HPT.out, by rw [HZE.out]; exact hm0⟩)
          obtain ⟨A6, c6, e6⟩ := HR10.out.ws.t.form
          have x14 : w10.cell? ⟨b, 14, none⟩ = some (.slice A6 z.got.length c6) := by
            have h : w10.cell? ⟨b, 14, none⟩ = some v2.t := HR10.out.box.cell 14
            rw [h, e6]
          have HX17 := hide (show w10.cell? ⟨b, 17, none⟩ = some (.int .i64 z.ops) from HR10.out.box.cell 17)
          obtain ⟨fqt, hot, hsub⟩ := Ow.takeN CrewJob.cells_len (HO.out.below HFR.out hf) z.got.length hgot
          have htl : (l.take z.got.length).length = z.got.length := by rw [List.length_take]; omega
          have HTD := hide (show Calls Try.prog 83 #[.slice A z.got.length c] w10 (ToldRet (l.take z.got.length) w10) from by
            have h := told_any (l.take z.got.length) A (l.take z.got.length).length c fqt w10 hot ((hf.up HFR.out).sub hsub) (jobsOk_take HJ0.out _)
            rw [htl] at h
            exact h)
          have hg0 : (0 : Int) ≤ (z.got.length : Int) := by omega
          have hgc : (z.got.length : Int) ≤ (c : Int) := by omega
          have HRS := hide (show Row w10 w.heap.size 45 toldZero from HZ4.out.below HR10.out.fr hzB)
          clear hot hsub htl e6
          go_upto_region 12 with (first | (go_at_call 83; refine HTD.out.mono ?_; rintro e w11 ⟨us11, fq11, rfl, o11, n11, b11⟩; obtain ⟨B1, d1, B2, d2, f1, f2, e11, o1, o2, x3, x4, x5, efp⟩ := o11.oCrewTold; subst e11; have HN11 := hide n11; have HO1 := hide o1; have HO2 := hide o2; have HEF := hide efp; have HWF := hide x3; have HB11 := hide b11; have HNT := hide (Row.new w11 45 toldZero); clear o11 n11 b11 o1 o2 efp) | (refine wpList_store_row rfl 45 _ _ rfl (w11.heap.size) ([.bool (toldOf (l.take z.got.length)).ok, .slice B1 (toldOf (l.take z.got.length)).items.length d1, .slice B2 (toldOf (l.take z.got.length)).dead.length d2, .int .i64 (toldOf (l.take z.got.length)).jobs, .int .i64 (toldOf (l.take z.got.length)).steps, .int .i64 (toldOf (l.take z.got.length)).ops] : List Value).toArray rfl rfl 45 (toldZero).toArray HNT.out (by kernel_rfl) rfl (by simp [Value.oneCell']) ?_) | fail)
          have HT15 := hide (show Row ((w11.alloc (.cells #[.bool false, .slice none 0 0, .slice none 0 0, .int .i64 0, .int .i64 0, .int .i64 0] 45)).setRow w11.heap.size ([.bool (toldOf (l.take z.got.length)).ok, .slice B1 (toldOf (l.take z.got.length)).items.length d1, .slice B2 (toldOf (l.take z.got.length)).dead.length d2, .int .i64 (toldOf (l.take z.got.length)).jobs, .int .i64 (toldOf (l.take z.got.length)).steps, .int .i64 (toldOf (l.take z.got.length)).ops] : List Value).toArray) w11.heap.size 45 [.bool (toldOf (l.take z.got.length)).ok, .slice B1 (toldOf (l.take z.got.length)).items.length d1, .slice B2 (toldOf (l.take z.got.length)).dead.length d2, .int .i64 (toldOf (l.take z.got.length)).jobs, .int .i64 (toldOf (l.take z.got.length)).steps, .int .i64 (toldOf (l.take z.got.length)).ops] from HNT.out.setRow' _)
          have HB15 := hide (show Below w11.heap.size w11 ((w11.alloc (.cells #[.bool false, .slice none 0 0, .slice none 0 0, .int .i64 0, .int .i64 0, .int .i64 0] 45)).setRow w11.heap.size ([.bool (toldOf (l.take z.got.length)).ok, .slice B1 (toldOf (l.take z.got.length)).items.length d1, .slice B2 (toldOf (l.take z.got.length)).dead.length d2, .int .i64 (toldOf (l.take z.got.length)).jobs, .int .i64 (toldOf (l.take z.got.length)).steps, .int .i64 (toldOf (l.take z.got.length)).ops] : List Value).toArray) from ((Below.refl _ _).alloc (Nat.le_refl _) _).trans (below_of_grown (setRow_grown (grown_refl _ (some w11.heap.size)) _) (Nat.le_refl _) (by rw [World.size_alloc]; omega)))
          have hs11 := HB11.out.size
          have hzl := HRS.out.lt
          generalize World.setRow _ _ _ = W15 at HT15 HB15 ⊢
          generalize hg17 : w11.heap.size = g17 at HT15 hs11 ⊢
          have HG17 := hide hg17
          clear hg17
          have HB1015 := hide (show Below w10.heap.size w10 W15 from HB11.out.trans (HB15.out.mono HB11.out.size))
          have x17 : W15.cell? ⟨b, 17, none⟩ = some (.int .i64 z.ops) := kc HX17.out HB1015.out lt10
          have t4 : W15.cell? ⟨g17, 4, none⟩ = some (.int .i64 (toldOf (l.take z.got.length)).steps) := HT15.out.cell 4
          have t5 : W15.cell? ⟨g17, 5, none⟩ = some (.int .i64 (toldOf (l.take z.got.length)).ops) := HT15.out.cell 5
          have tf4 : W15.frozen? ⟨g17, 4, none⟩ = false := HT15.out.frozen 4
          have tf5 : W15.frozen? ⟨g17, 5, none⟩ = false := HT15.out.frozen 5
          have tl := HT15.out.lt
          have HZ15 := hide (HRS.out.below HB1015.out hzl)
          have hzl15 := HZ15.out.lt
          have hbl15 : b < W15.heap.size := by omega
          have hgz : w.heap.size ≠ g17 := by omega
          have hgb : b ≠ g17 := by omega
          go_wp2_with fail
          go_region_law (fail)
          all_goals
            go_upto_region 13 with fail
            have HT17 := hide (show Row ((W15.setCell ⟨g17, 4, none⟩ (.int .i64 (t : Int))).setCell ⟨g17, 5, none⟩ (.int .i64 z.ops)).drew g17 45 [.bool (toldOf (l.take z.got.length)).ok, .slice B1 (toldOf (l.take z.got.length)).items.length d1, .slice B2 (toldOf (l.take z.got.length)).dead.length d2, .int .i64 (toldOf (l.take z.got.length)).jobs, .int .i64 (t : Int), .int .i64 z.ops] from (HT15.out.set 4 (.int .i64 (t : Int))).set 5 (.int .i64 z.ops))
            have HZ17 := hide (show Row ((W15.setCell ⟨g17, 4, none⟩ (.int .i64 (t : Int))).setCell ⟨g17, 5, none⟩ (.int .i64 z.ops)).drew w.heap.size 45 toldZero from (HZ15.out.far (p := ⟨g17, 4, none⟩) hgz (.int .i64 (t : Int))).far (p := ⟨g17, 5, none⟩) hgz (.int .i64 z.ops))
            have HB17 := hide (show Below w11.heap.size w11 ((W15.setCell ⟨g17, 4, none⟩ (.int .i64 (t : Int))).setCell ⟨g17, 5, none⟩ (.int .i64 z.ops)).drew from below_drewN ((HB15.out.setCell (p := ⟨g17, 4, none⟩) (Nat.le_of_eq HG17.out) (.int .i64 (t : Int))).setCell (p := ⟨g17, 5, none⟩) (Nat.le_of_eq HG17.out) (.int .i64 z.ops)) 1)
            generalize World.drew _ = W17 at HT17 HZ17 HB17 ⊢
            have tl17 := HT17.out.lt
            have zl17 := HZ17.out.lt
            have HONE := hide (show ([.bool (toldOf (l.take z.got.length)).ok, .slice B1 (toldOf (l.take z.got.length)).items.length d1, .slice B2 (toldOf (l.take z.got.length)).dead.length d2, .int .i64 (toldOf (l.take z.got.length)).jobs, .int .i64 (t : Int), .int .i64 z.ops] : List Value).toArray.all (·.oneCell') = true from by simp [Value.oneCell'])
            go_wp2_with (first | (refine wpList_load_row rfl 45 _ rfl (g17) rfl 45 ([.bool (toldOf (l.take z.got.length)).ok, .slice B1 (toldOf (l.take z.got.length)).items.length d1, .slice B2 (toldOf (l.take z.got.length)).dead.length d2, .int .i64 (toldOf (l.take z.got.length)).jobs, .int .i64 (t : Int), .int .i64 z.ops] : List Value).toArray (0, 0) _ HT17.out Try.underlying45 rfl (by kernel_rfl) ?_) | (refine wpList_store_row rfl 45 _ _ rfl (w.heap.size) ([.bool (toldOf (l.take z.got.length)).ok, .slice B1 (toldOf (l.take z.got.length)).items.length d1, .slice B2 (toldOf (l.take z.got.length)).dead.length d2, .int .i64 (toldOf (l.take z.got.length)).jobs, .int .i64 (t : Int), .int .i64 z.ops] : List Value).toArray rfl rfl 45 (toldZero).toArray HZ17.out (by kernel_rfl) rfl HONE.out ?_) | fail)
            refine bodyPost_ret (ret_row rfl _ _ w.heap.size 45 [.bool (toldOf (l.take z.got.length)).ok, .slice B1 (toldOf (l.take z.got.length)).items.length d1, .slice B2 (toldOf (l.take z.got.length)).dead.length d2, .int .i64 (toldOf (l.take z.got.length)).jobs, .int .i64 (t : Int), .int .i64 z.ops] (HZ17.out.setRow' [.bool (toldOf (l.take z.got.length)).ok, .slice B1 (toldOf (l.take z.got.length)).items.length d1, .slice B2 (toldOf (l.take z.got.length)).dead.length d2, .int .i64 (toldOf (l.take z.got.length)).jobs, .int .i64 (t : Int), .int .i64 z.ops]) _ rfl Try.underlying45 rfl (by kernel_rfl)) rfl ?_
            unfold PlayRet
            rw [HR.out, playTold_eq HPE.out, HZE.out]
            have hg := setRow_grown (grown_refl W17 (some w.heap.size)) ([.bool (toldOf (l.take z.got.length)).ok, .slice B1 (toldOf (l.take z.got.length)).items.length d1, .slice B2 (toldOf (l.take z.got.length)).dead.length d2, .int .i64 (toldOf (l.take z.got.length)).jobs, .int .i64 (t : Int), .int .i64 z.ops] : List Value).toArray
            have hnz : w.heap.size ∉ fq11 := fun hm => by have := (HN11.out.fr _ hm).1; omega
            have hbw : Below w.heap.size w W17 := HFR.out.trans ((HB11.out.trans (HB17.out.mono HB11.out.size)).mono HFR.out.size)
            have h1 := OwC.mCrewTold (x := { toldOf (l.take z.got.length) with steps := (t : Int), ops := z.ops }) HO1.out HO2.out HWF.out (show (Lit.int .i64 (t : Int)).wf = true from WalkArith.wf_i64 (by omega)) (show (Lit.int .i64 z.ops).wf = true from WalkArith.wf_i64 (by omega))
            rw [← show fq11 = _ from HEF.out] at h1
            have h2 := (h1.below HB17.out HN11.out.lt).grown hg (HN11.out.lt.up HB17.out) hnz
            exact ⟨_, fq11, rfl, h2, ((HN11.out.below HB17.out HN11.out.lt).grown hg (fun g e => by injection e with e; subst e; exact hnz)).mono (by omega), hbw.trans (below_of_grown hg (Nat.le_refl _) hbw.size)⟩
        · have hmp : 0 < z.moves.length := by omega
          have qm : ((z.moves.length : Int) == 0) = false := beqf (by omega)
          have qme : ¬ (z.moves = []) := fun e => hm0 (by rw [e]; rfl)
          obtain ⟨who, k, hpk, hwlt, hway, hgo⟩ := go_move ps t hmp
          have hplt := pickAt_lt ps t hmp
          rw [List.getElem?_eq_getElem hplt] at hpk
          have hel := Option.some.inj hpk
          have HST := hide (show runAt x0 ps cn (t + 1) = z.step who (k : Int) from by rw [runAt_succ, HZE.out]; exact hgo)
          obtain ⟨gm, offm, um, fm, eA, hgm, -, hul, hcm, hom⟩ := HO10.out.elem CrewMove.cells_len hplt
          subst eA
          rw [hel] at hom
          obtain ⟨rfl, wf1, wf2, -⟩ := hom.oCrewMove
          have c0 := hcm 0 _ rfl
          have c1 := hcm 1 _ rfl
          simp only [Nat.add_zero] at c0
          have HPK := hide (implPick_any ps A3 ps.length c3 fp3 w10 (HP.out.below HFR.out hf3) (hf3.up HFR.out) t z.moves.length hmp (by omega) (by omega) hps)
          have HR10D := hide (fun (W' : World) (hb : Below w10.heap.size w10 W') => (show Wz w4 W' b B [] id z v2 ∧ (∀ o v, w10.cell? ⟨gm, o, none⟩ = some v → W'.cell? ⟨gm, o, none⟩ = some v) from ⟨HR10.out.below hb, fun o v h => kc h hb (cell_lt h)⟩))
          have hgml : gm < w10.heap.size := HN10.out.lt _ hgm
          have hwho : (who : Int) ≤ z.workers + 3 := by omega
          clear hpk hel hcm hom hul hgm hgo
          generalize pickAt ps t z.moves.length = p at *
          have hpI : (p : Int) < (z.moves.length : Int) := by omega
          have hpI0 : (0 : Int) ≤ (p : Int) := by omega
          have HC0C := hide c0
          have HC1C := hide c1
          go_wp2_with (first | (go_at_call 82; refine HPK.out.mono ?_; rintro e w11 ⟨rfl, b11⟩; have hh11 := HR10D.out w11 b11; have HR11 := hide hh11.1; have d0 := hh11.2 _ _ HC0C.out; have d1 := hh11.2 _ _ HC1C.out; have hgm11 : gm < w11.heap.size := Nat.lt_of_lt_of_le hgml b11.size; have HMV := hide (move_any w4 w11 b B z v2 HR11.out HZK.out who k hwho hway); clear b11 hh11) | (go_at_call 81; refine HMV.out.mono ?_; rintro e w12 ⟨rfl, v3, h3⟩; have H3 := hide h3; clear h3) | fail)
          go_roundw
          case rel =>
            have hp2 := HPT.out.succ (by rw [HZE.out]; exact hmp)
            refine ⟨t + 1, v3, by go_num, hp2, ?_, ?_⟩
            · rw [← HX0.out] at hp2
              exact played_le HC0.out hp2
            · rw [HST.out]
              exact H3.out
          case measure => simp [intOf]; omega
    · have qn : ((t : Int) == cn) = false := beqf hcn
      have HCE := hide (show y.cutAt t cn = y from by unfold CrewWorld.cutAt; rw [if_neg (fun hh => hcn hh.1)])
      go_upto_region 8 with fail
      have hst := HRA.out
      rw [← show y.cutAt t cn = y from HCE.out, ← HRI.out] at hst
      obtain ⟨W, v2, hW, hr9⟩ : ∃ W v2, W = wr ∧ Wz w4 W b B [] id (runIn x0 ps cn t) v2 := ⟨wr, v1, rfl, hst⟩
      subst hW
      have HRW := hide hr9
      clear hst hr9
      have hri := runIn_ok HSO.out HPT.out
      have hgot : (runIn x0 ps cn t).got.length ≤ l.length := by
        have h := HPT.out
        rw [← HX0.out] at h ⊢
        exact got_take HC0.out h
      obtain ⟨z, hz⟩ : ∃ z, z = runIn x0 ps cn t := ⟨_, rfl⟩
      have HZE := hide hz.symm
      rw [← hz] at HRW hri hgot
      clear hz
      have HZK := hide hri
      obtain ⟨z1, z2, z3, z4, z5, z6, z7⟩ := ok_lens hri
      obtain ⟨y1, y2, y3, y4, y5, y6, y7⟩ := ok_nums hri
      have hml : z.moves.length ≤ 3 * (z.workers.toNat + 4) := movesTo_len z _
      have hml2 : z.moves.length ≤ 36 := by omega
      obtain ⟨fpz, hoz, hlz⟩ := HRW.out.ws.owc (ok_wf hri)
      have HCM := hide (implMovesOf_any z _ fpz b W HRW.out.box hoz hlz hri.form)
      have HWB := hide (fun (W' : World) (hb : Below W.heap.size W W') => HRW.out.below hb)
      have lw := HRW.out.lt
      clear hri hml hoz hlz
      go_upto_region 9 with (first | (go_at_call 80; refine HCM.out.mono ?_; rintro e w10 ⟨v10, fq10, rfl, o10, n10, b10⟩; obtain ⟨A10, c10, e10, -, -⟩ := o10.slice; subst e10; have HO10 := hide o10; have HN10 := hide n10; have HR10 := hide (HWB.out w10 b10); have lt10 := HR10.out.lt; clear o10 n10 b10) | fail)
      have HFR := hide (show Below w.heap.size w w10 from HB4.out.trans (HR10.out.fr.mono hwB))
      by_cases hm0 : z.moves.length = 0
      · have qm : ((z.moves.length : Int) == 0) = true := beqt (by omega)
        have HPE := hide (show PlayEnd x0 ps cn t from ⟨HPT.out, by rw [HZE.out]; exact hm0⟩)
        obtain ⟨A6, c6, e6⟩ := HR10.out.ws.t.form
        have x14 : w10.cell? ⟨b, 14, none⟩ = some (.slice A6 z.got.length c6) := by
          have h : w10.cell? ⟨b, 14, none⟩ = some v2.t := HR10.out.box.cell 14
          rw [h, e6]
        have HX17 := hide (show w10.cell? ⟨b, 17, none⟩ = some (.int .i64 z.ops) from HR10.out.box.cell 17)
        obtain ⟨fqt, hot, hsub⟩ := Ow.takeN CrewJob.cells_len (HO.out.below HFR.out hf) z.got.length hgot
        have htl : (l.take z.got.length).length = z.got.length := by rw [List.length_take]; omega
        have HTD := hide (show Calls Try.prog 83 #[.slice A z.got.length c] w10 (ToldRet (l.take z.got.length) w10) from by
          have h := told_any (l.take z.got.length) A (l.take z.got.length).length c fqt w10 hot ((hf.up HFR.out).sub hsub) (jobsOk_take HJ0.out _)
          rw [htl] at h
          exact h)
        have hg0 : (0 : Int) ≤ (z.got.length : Int) := by omega
        have hgc : (z.got.length : Int) ≤ (c : Int) := by omega
        have HRS := hide (show Row w10 w.heap.size 45 toldZero from HZ4.out.below HR10.out.fr hzB)
        clear hot hsub htl e6
        go_upto_region 12 with (first | (go_at_call 83; refine HTD.out.mono ?_; rintro e w11 ⟨us11, fq11, rfl, o11, n11, b11⟩; obtain ⟨B1, d1, B2, d2, f1, f2, e11, o1, o2, x3, x4, x5, efp⟩ := o11.oCrewTold; subst e11; have HN11 := hide n11; have HO1 := hide o1; have HO2 := hide o2; have HEF := hide efp; have HWF := hide x3; have HB11 := hide b11; have HNT := hide (Row.new w11 45 toldZero); clear o11 n11 b11 o1 o2 efp) | (refine wpList_store_row rfl 45 _ _ rfl (w11.heap.size) ([.bool (toldOf (l.take z.got.length)).ok, .slice B1 (toldOf (l.take z.got.length)).items.length d1, .slice B2 (toldOf (l.take z.got.length)).dead.length d2, .int .i64 (toldOf (l.take z.got.length)).jobs, .int .i64 (toldOf (l.take z.got.length)).steps, .int .i64 (toldOf (l.take z.got.length)).ops] : List Value).toArray rfl rfl 45 (toldZero).toArray HNT.out (by kernel_rfl) rfl (by simp [Value.oneCell']) ?_) | fail)
        have HT15 := hide (show Row ((w11.alloc (.cells #[.bool false, .slice none 0 0, .slice none 0 0, .int .i64 0, .int .i64 0, .int .i64 0] 45)).setRow w11.heap.size ([.bool (toldOf (l.take z.got.length)).ok, .slice B1 (toldOf (l.take z.got.length)).items.length d1, .slice B2 (toldOf (l.take z.got.length)).dead.length d2, .int .i64 (toldOf (l.take z.got.length)).jobs, .int .i64 (toldOf (l.take z.got.length)).steps, .int .i64 (toldOf (l.take z.got.length)).ops] : List Value).toArray) w11.heap.size 45 [.bool (toldOf (l.take z.got.length)).ok, .slice B1 (toldOf (l.take z.got.length)).items.length d1, .slice B2 (toldOf (l.take z.got.length)).dead.length d2, .int .i64 (toldOf (l.take z.got.length)).jobs, .int .i64 (toldOf (l.take z.got.length)).steps, .int .i64 (toldOf (l.take z.got.length)).ops] from HNT.out.setRow' _)
        have HB15 := hide (show Below w11.heap.size w11 ((w11.alloc (.cells #[.bool false, .slice none 0 0, .slice none 0 0, .int .i64 0, .int .i64 0, .int .i64 0] 45)).setRow w11.heap.size ([.bool (toldOf (l.take z.got.length)).ok, .slice B1 (toldOf (l.take z.got.length)).items.length d1, .slice B2 (toldOf (l.take z.got.length)).dead.length d2, .int .i64 (toldOf (l.take z.got.length)).jobs, .int .i64 (toldOf (l.take z.got.length)).steps, .int .i64 (toldOf (l.take z.got.length)).ops] : List Value).toArray) from ((Below.refl _ _).alloc (Nat.le_refl _) _).trans (below_of_grown (setRow_grown (grown_refl _ (some w11.heap.size)) _) (Nat.le_refl _) (by rw [World.size_alloc]; omega)))
        have hs11 := HB11.out.size
        have hzl := HRS.out.lt
        generalize World.setRow _ _ _ = W15 at HT15 HB15 ⊢
        generalize hg17 : w11.heap.size = g17 at HT15 hs11 ⊢
        have HG17 := hide hg17
        clear hg17
        have HB1015 := hide (show Below w10.heap.size w10 W15 from HB11.out.trans (HB15.out.mono HB11.out.size))
        have x17 : W15.cell? ⟨b, 17, none⟩ = some (.int .i64 z.ops) := kc HX17.out HB1015.out lt10
        have t4 : W15.cell? ⟨g17, 4, none⟩ = some (.int .i64 (toldOf (l.take z.got.length)).steps) := HT15.out.cell 4
        have t5 : W15.cell? ⟨g17, 5, none⟩ = some (.int .i64 (toldOf (l.take z.got.length)).ops) := HT15.out.cell 5
        have tf4 : W15.frozen? ⟨g17, 4, none⟩ = false := HT15.out.frozen 4
        have tf5 : W15.frozen? ⟨g17, 5, none⟩ = false := HT15.out.frozen 5
        have tl := HT15.out.lt
        have HZ15 := hide (HRS.out.below HB1015.out hzl)
        have hzl15 := HZ15.out.lt
        have hbl15 : b < W15.heap.size := by omega
        have hgz : w.heap.size ≠ g17 := by omega
        have hgb : b ≠ g17 := by omega
        go_wp2_with fail
        go_region_law (fail)
        all_goals
          go_upto_region 13 with fail
          have HT17 := hide (show Row ((W15.setCell ⟨g17, 4, none⟩ (.int .i64 (t : Int))).setCell ⟨g17, 5, none⟩ (.int .i64 z.ops)).drew g17 45 [.bool (toldOf (l.take z.got.length)).ok, .slice B1 (toldOf (l.take z.got.length)).items.length d1, .slice B2 (toldOf (l.take z.got.length)).dead.length d2, .int .i64 (toldOf (l.take z.got.length)).jobs, .int .i64 (t : Int), .int .i64 z.ops] from (HT15.out.set 4 (.int .i64 (t : Int))).set 5 (.int .i64 z.ops))
          have HZ17 := hide (show Row ((W15.setCell ⟨g17, 4, none⟩ (.int .i64 (t : Int))).setCell ⟨g17, 5, none⟩ (.int .i64 z.ops)).drew w.heap.size 45 toldZero from (HZ15.out.far (p := ⟨g17, 4, none⟩) hgz (.int .i64 (t : Int))).far (p := ⟨g17, 5, none⟩) hgz (.int .i64 z.ops))
          have HB17 := hide (show Below w11.heap.size w11 ((W15.setCell ⟨g17, 4, none⟩ (.int .i64 (t : Int))).setCell ⟨g17, 5, none⟩ (.int .i64 z.ops)).drew from below_drewN ((HB15.out.setCell (p := ⟨g17, 4, none⟩) (Nat.le_of_eq HG17.out) (.int .i64 (t : Int))).setCell (p := ⟨g17, 5, none⟩) (Nat.le_of_eq HG17.out) (.int .i64 z.ops)) 1)
          generalize World.drew _ = W17 at HT17 HZ17 HB17 ⊢
          have tl17 := HT17.out.lt
          have zl17 := HZ17.out.lt
          have HONE := hide (show ([.bool (toldOf (l.take z.got.length)).ok, .slice B1 (toldOf (l.take z.got.length)).items.length d1, .slice B2 (toldOf (l.take z.got.length)).dead.length d2, .int .i64 (toldOf (l.take z.got.length)).jobs, .int .i64 (t : Int), .int .i64 z.ops] : List Value).toArray.all (·.oneCell') = true from by simp [Value.oneCell'])
          go_wp2_with (first | (refine wpList_load_row rfl 45 _ rfl (g17) rfl 45 ([.bool (toldOf (l.take z.got.length)).ok, .slice B1 (toldOf (l.take z.got.length)).items.length d1, .slice B2 (toldOf (l.take z.got.length)).dead.length d2, .int .i64 (toldOf (l.take z.got.length)).jobs, .int .i64 (t : Int), .int .i64 z.ops] : List Value).toArray (0, 0) _ HT17.out Try.underlying45 rfl (by kernel_rfl) ?_) | (refine wpList_store_row rfl 45 _ _ rfl (w.heap.size) ([.bool (toldOf (l.take z.got.length)).ok, .slice B1 (toldOf (l.take z.got.length)).items.length d1, .slice B2 (toldOf (l.take z.got.length)).dead.length d2, .int .i64 (toldOf (l.take z.got.length)).jobs, .int .i64 (t : Int), .int .i64 z.ops] : List Value).toArray rfl rfl 45 (toldZero).toArray HZ17.out (by kernel_rfl) rfl HONE.out ?_) | fail)
          refine bodyPost_ret (ret_row rfl _ _ w.heap.size 45 [.bool (toldOf (l.take z.got.length)).ok, .slice B1 (toldOf (l.take z.got.length)).items.length d1, .slice B2 (toldOf (l.take z.got.length)).dead.length d2, .int .i64 (toldOf (l.take z.got.length)).jobs, .int .i64 (t : Int), .int .i64 z.ops] (HZ17.out.setRow' [.bool (toldOf (l.take z.got.length)).ok, .slice B1 (toldOf (l.take z.got.length)).items.length d1, .slice B2 (toldOf (l.take z.got.length)).dead.length d2, .int .i64 (toldOf (l.take z.got.length)).jobs, .int .i64 (t : Int), .int .i64 z.ops]) _ rfl Try.underlying45 rfl (by kernel_rfl)) rfl ?_
          unfold PlayRet
          rw [HR.out, playTold_eq HPE.out, HZE.out]
          have hg := setRow_grown (grown_refl W17 (some w.heap.size)) ([.bool (toldOf (l.take z.got.length)).ok, .slice B1 (toldOf (l.take z.got.length)).items.length d1, .slice B2 (toldOf (l.take z.got.length)).dead.length d2, .int .i64 (toldOf (l.take z.got.length)).jobs, .int .i64 (t : Int), .int .i64 z.ops] : List Value).toArray
          have hnz : w.heap.size ∉ fq11 := fun hm => by have := (HN11.out.fr _ hm).1; omega
          have hbw : Below w.heap.size w W17 := HFR.out.trans ((HB11.out.trans (HB17.out.mono HB11.out.size)).mono HFR.out.size)
          have h1 := OwC.mCrewTold (x := { toldOf (l.take z.got.length) with steps := (t : Int), ops := z.ops }) HO1.out HO2.out HWF.out (show (Lit.int .i64 (t : Int)).wf = true from WalkArith.wf_i64 (by omega)) (show (Lit.int .i64 z.ops).wf = true from WalkArith.wf_i64 (by omega))
          rw [← show fq11 = _ from HEF.out] at h1
          have h2 := (h1.below HB17.out HN11.out.lt).grown hg (HN11.out.lt.up HB17.out) hnz
          exact ⟨_, fq11, rfl, h2, ((HN11.out.below HB17.out HN11.out.lt).grown hg (fun g e => by injection e with e; subst e; exact hnz)).mono (by omega), hbw.trans (below_of_grown hg (Nat.le_refl _) hbw.size)⟩
      · have hmp : 0 < z.moves.length := by omega
        have qm : ((z.moves.length : Int) == 0) = false := beqf (by omega)
        have qme : ¬ (z.moves = []) := fun e => hm0 (by rw [e]; rfl)
        obtain ⟨who, k, hpk, hwlt, hway, hgo⟩ := go_move ps t hmp
        have hplt := pickAt_lt ps t hmp
        rw [List.getElem?_eq_getElem hplt] at hpk
        have hel := Option.some.inj hpk
        have HST := hide (show runAt x0 ps cn (t + 1) = z.step who (k : Int) from by rw [runAt_succ, HZE.out]; exact hgo)
        obtain ⟨gm, offm, um, fm, eA, hgm, -, hul, hcm, hom⟩ := HO10.out.elem CrewMove.cells_len hplt
        subst eA
        rw [hel] at hom
        obtain ⟨rfl, wf1, wf2, -⟩ := hom.oCrewMove
        have c0 := hcm 0 _ rfl
        have c1 := hcm 1 _ rfl
        simp only [Nat.add_zero] at c0
        have HPK := hide (implPick_any ps A3 ps.length c3 fp3 w10 (HP.out.below HFR.out hf3) (hf3.up HFR.out) t z.moves.length hmp (by omega) (by omega) hps)
        have HR10D := hide (fun (W' : World) (hb : Below w10.heap.size w10 W') => (show Wz w4 W' b B [] id z v2 ∧ (∀ o v, w10.cell? ⟨gm, o, none⟩ = some v → W'.cell? ⟨gm, o, none⟩ = some v) from ⟨HR10.out.below hb, fun o v h => kc h hb (cell_lt h)⟩))
        have hgml : gm < w10.heap.size := HN10.out.lt _ hgm
        have hwho : (who : Int) ≤ z.workers + 3 := by omega
        clear hpk hel hcm hom hul hgm hgo
        generalize pickAt ps t z.moves.length = p at *
        have hpI : (p : Int) < (z.moves.length : Int) := by omega
        have hpI0 : (0 : Int) ≤ (p : Int) := by omega
        have HC0C := hide c0
        have HC1C := hide c1
        go_wp2_with (first | (go_at_call 82; refine HPK.out.mono ?_; rintro e w11 ⟨rfl, b11⟩; have hh11 := HR10D.out w11 b11; have HR11 := hide hh11.1; have d0 := hh11.2 _ _ HC0C.out; have d1 := hh11.2 _ _ HC1C.out; have hgm11 : gm < w11.heap.size := Nat.lt_of_lt_of_le hgml b11.size; have HMV := hide (move_any w4 w11 b B z v2 HR11.out HZK.out who k hwho hway); clear b11 hh11) | (go_at_call 81; refine HMV.out.mono ?_; rintro e w12 ⟨rfl, v3, h3⟩; have H3 := hide h3; clear h3) | fail)
        go_roundw
        case rel =>
          have hp2 := HPT.out.succ (by rw [HZE.out]; exact hmp)
          refine ⟨t + 1, v3, by go_num, hp2, ?_, ?_⟩
          · rw [← HX0.out] at hp2
            exact played_le HC0.out hp2
          · rw [HST.out]
            exact H3.out
        case measure => simp [intOf]; omega
end Go.Proofs.Ytpkjjfnfolbcoaa
