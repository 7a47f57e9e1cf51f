/-
  CrewDead: what the laws' marks write, and that they are found again. The laws' marks at a CrewTold by value: only its slices are marked.
-/
import Derived.Test.YtpkjjfnfolbcoaaQDCrewJob
import Derived.Test.YtpkjjfnfolbcoaaQMark
set_option linter.unusedVariables false
set_option linter.unusedSimpArgs false
namespace Go.Proofs.Ytpkjjfnfolbcoaa
open Go.ChangeShapes Go.WideShapes Go.ChangeAt Go.RowKit

def CrewDead.mk_ (x : CrewDead) (a b : Nat) : Prop := x.at_ = ((a : Nat) : Int) ∧ x.bad = (((a + 1) : Nat) : Int) ∧ b = a + 2
def CrewDead.mkS : List CrewDead → Nat → Nat → Prop
  | [], a, b => a = b
  | x :: r, a, b => ∃ c, x.mk_ a c ∧ CrewDead.mkS r c b
def CrewDead.cnt (x : CrewDead) : Nat := 2
def CrewDead.cntS : List CrewDead → Nat
  | [] => 0
  | x :: r => x.cnt + CrewDead.cntS r
theorem CrewDead.mk_iff (x : CrewDead) (a b : Nat) : x.mk_ a b ↔ x.at_ = ((a : Nat) : Int) ∧ x.bad = (((a + 1) : Nat) : Int) ∧ b = a + 2 := Iff.rfl
theorem CrewDead.cnt_eq (x : CrewDead) : x.cnt = 2 := rfl
theorem CrewDead.mkS_snoc : ∀ (l : List CrewDead) (x : CrewDead) (a c b : Nat), CrewDead.mkS l a c → x.mk_ c b → CrewDead.mkS (l ++ [x]) a b
  | [], x, a, c, b, h, hx => by
    simp only [CrewDead.mkS] at h
    subst h
    exact ⟨b, hx, rfl⟩
  | y :: r, x, a, c, b, h, hx => by
    obtain ⟨d, h1, h2⟩ := h
    exact ⟨d, h1, CrewDead.mkS_snoc r x d c b h2 hx⟩
theorem CrewDead.mkS_drop : ∀ (l : List CrewDead) (b : Nat) (k : Nat) (h : k < l.length) (c : Nat), CrewDead.mkS (l.drop k) c b → ∃ d, l[k].mk_ c d ∧ CrewDead.mkS (l.drop (k + 1)) d b
  | x :: r, b, 0, _, c, h => by
    obtain ⟨d, h1, h2⟩ := h
    exact ⟨d, h1, h2⟩
  | x :: r, b, k + 1, hk, c, h => CrewDead.mkS_drop r b k (by simpa using hk) c h
theorem CrewDead.cntS_append (a b : List CrewDead) : CrewDead.cntS (a ++ b) = CrewDead.cntS a + CrewDead.cntS b := by
  induction a with
  | nil => simp [CrewDead.cntS]
  | cons x a ih => simp [CrewDead.cntS, ih]; omega
theorem CrewDead.cntS_snoc (l : List CrewDead) (k : Nat) (h : k < l.length) : CrewDead.cntS (l.take (k + 1)) = CrewDead.cntS (l.take k) + l[k].cnt := by
  rw [List.take_succ_eq_append_getElem h, CrewDead.cntS_append]
  simp [CrewDead.cntS]
theorem CrewDead.cntS_le (l : List CrewDead) (k : Nat) : CrewDead.cntS (l.take k) ≤ CrewDead.cntS l := by
  conv => rhs; rw [← List.take_append_drop k l, CrewDead.cntS_append]
  omega
theorem CrewDead.mk_le (x : CrewDead) (a b : Nat) (h : x.mk_ a b) : a ≤ b := by
  obtain ⟨h0, h1, hb⟩ := (x.mk_iff a b).1 h
  skip
  omega
theorem CrewDead.mkS_le : ∀ (l : List CrewDead) (a b : Nat), CrewDead.mkS l a b → a ≤ b
  | [], a, b, h => by simp only [CrewDead.mkS] at h; omega
  | x :: r, a, b, h => by
    obtain ⟨c, h1, h2⟩ := h
    exact Nat.le_trans (x.mk_le _ _ h1) (CrewDead.mkS_le r _ _ h2)

def MarkCrewDeadS (l : List CrewDead) : Prop := ∀ (A : Option Addr) (n c : Nat) (fp : List Nat) (lo : Nat) (z : Int) (k0 : Nat) (w : World), z = k0 → Ow w (.s 2 l.length (l.flatMap CrewDead.cells)) (.slice A n c) fp → New w fp lo → k0 + CrewDead.cntS l ≤ 1099511627776 →
  Calls Try.prog 86 #[.slice A n c, .int .i64 z] w fun e w' => ∃ (l' : List CrewDead), e = .returned (.int .i64 ((k0 + CrewDead.cntS l : Nat) : Int)) ∧ l'.length = l.length ∧ Ow w' (.s 2 l'.length (l'.flatMap CrewDead.cells)) (.slice A n c) fp ∧ CrewDead.mkS l' k0 (k0 + CrewDead.cntS l) ∧ Touch fp w w'
set_option maxRecDepth 100000 in
set_option maxHeartbeats 1000000 in
theorem markCrewDeadS_of (l : List CrewDead) : MarkCrewDeadS l := by
  intro A n c fp lo z k0 w hz h hn hb
  subst hz
  obtain ⟨rfl, hc, hm⟩ := h.nlen
  unfold maxLen at hm
  go_enter Try.func86, Try.ntmps86
  go_wp2
  go_loopw [1, 5] (fun a i wr => (∃ (j : Nat) (lj : List CrewDead), j ≤ l.length ∧ lj.length = l.length ∧ a = .int .i64 ((k0 + CrewDead.cntS (l.take j) : Nat) : Int) ∧ i = .int .i64 (j : Nat) ∧ Ow wr (.s 2 lj.length (lj.flatMap CrewDead.cells)) (.slice A l.length c) fp ∧ CrewDead.mkS (lj.take j) k0 (k0 + CrewDead.cntS (l.take j)) ∧ lj.drop j = l.drop j) ∧ Touch fp w wr) (fun _ i _ => l.length - (intOf i).toNat)
  case atStart => exact ⟨⟨0, l, Nat.zero_le _, rfl, by simp [CrewDead.cntS], rfl, h, by simp [CrewDead.cntS, CrewDead.mkS], rfl⟩, Touch.refl _ _⟩
  case round =>
    obtain ⟨⟨j, lj, hj, hlj, rfl, rfl, hoj, hmj, hdj⟩, ht⟩ := hrel
    have HN := hide (ht.new hn)
    have HT := hide ht
    have HM := hide hmj
    have HL := hide hlj
    have HD := hide hdj
    clear hmj ht hdj
    by_cases hlt : j < l.length
    · have hltj : j < lj.length := by omega
      have hxe : lj[j] = l[j] := by
        have h1 : (lj.drop j)[0]? = (l.drop j)[0]? := by rw [HD.out]
        simpa [List.getElem?_drop, List.getElem?_eq_getElem hlt, List.getElem?_eq_getElem hltj] using h1
      have HS := hide (CrewDead.cntS_snoc l j hlt)
      have hle := CrewDead.cntS_le l (j + 1)
      obtain ⟨g, off, us, fi, rfl, hg, hfi, hgi, hnd, hul, hcs, hov, hput⟩ := hoj.upd CrewDead.cells_len HN.out.nd hltj
      rw [hxe] at hov
      have HCN := hide (l[j].cnt_eq)
      clear hxe
      generalize hxx : l[j] = x at *
      have HXX := hide hxx
      clear hxx
      have hbb : k0 + CrewDead.cntS (l.take j) + (2) ≤ 1099511627776 := by have h1 := HS.out; have h2 := HCN.out; have h3 : CrewDead.cntS l ≥ CrewDead.cntS (l.take (j + 1)) := hle; omega
      obtain ⟨rfl, w0, w1, rfl⟩ := hov.oCrewDead
      have p0 := hcs 0 _ rfl
      have p1 := hcs 1 _ rfl
      simp only [Nat.add_zero] at p0
      have hu := HN.out.uf g hg
      have hgl := HN.out.lt g hg
      have hfl : Lt ([]) wr.heap.size := HN.out.lt.sub hfi
      have q0 := unf_frozen hu (off + j * 2)
      have q1 := unf_frozen hu (off + j * 2 + 1)
      have HP := hide hput
      clear hcs hput hov hlj hoj
      have seg0 : Seg g (off + j * 2) (off + j * 2 + 2) [] wr wr := Seg.refl _ _ _ _ _
      go_wp2
      go_roundw
      case rel =>
        have hseg := Seg.mono (fj := []) ((seg0.setCell (o := off + j * 2) (by omega) (by omega) (.int .i64 (((k0 + CrewDead.cntS (l.take j)) : Nat) : Int))).setCell (o := off + j * 2 + 1) (by omega) (by omega) (.int .i64 ((((k0 + CrewDead.cntS (l.take j)) + 1) : Nat) : Int))) (by intro b hb; first | (cases hb; done) | exact hb | (simp only [List.nil_append, List.append_assoc, List.mem_append, List.mem_cons, List.not_mem_nil, or_false, false_or] at hb ⊢; simp [hb]))
        have hnew := HP.out _ (CrewDead.mk ((((k0 + CrewDead.cntS (l.take j)) : Nat) : Int)) (((((k0 + CrewDead.cntS (l.take j)) + 1) : Nat) : Int))) [.int .i64 (((k0 + CrewDead.cntS (l.take j)) : Nat) : Int), .int .i64 ((((k0 + CrewDead.cntS (l.take j)) + 1) : Nat) : Int)] (by
          have h := OwC.mCrewDead (w := ((wr.setCell ⟨g, off + j * 2, none⟩ (.int .i64 (((k0 + CrewDead.cntS (l.take j)) : Nat) : Int))).setCell ⟨g, off + j * 2 + 1, none⟩ (.int .i64 ((((k0 + CrewDead.cntS (l.take j)) + 1) : Nat) : Int)))) (x := (CrewDead.mk ((((k0 + CrewDead.cntS (l.take j)) : Nat) : Int)) (((((k0 + CrewDead.cntS (l.take j)) + 1) : Nat) : Int)))) (by show (Lit.int .i64 (((k0 + CrewDead.cntS (l.take j)) : Nat) : Int)).wf = true; exact WalkArith.wf_i64 (by have := HCN.out; have := HS.out; omega)) (by show (Lit.int .i64 ((((k0 + CrewDead.cntS (l.take j)) + 1) : Nat) : Int)).wf = true; exact WalkArith.wf_i64 (by have := HCN.out; have := HS.out; omega))
          first | exact h | simpa using h) (fun i u hi => by
          match i, hi with
          | 0, hi => simp at hi; subst hi; go_simp
          | 1, hi => simp at hi; subst hi; go_simp) hseg HN.out.lt
        refine ⟨⟨j + 1, lj.set j (CrewDead.mk ((((k0 + CrewDead.cntS (l.take j)) : Nat) : Int)) (((((k0 + CrewDead.cntS (l.take j)) + 1) : Nat) : Int))), by omega, by simpa using HL.out, by rw [HS.out, HCN.out]; go_num, by go_num, by rw [List.length_set]; exact hnew, ?_, ?_⟩, HT.out.trans (hseg.to_touch hg hfi)⟩
        · rw [take_set_succ lj j _ (by have := HL.out; omega), HS.out]
          refine CrewDead.mkS_snoc _ _ _ _ _ HM.out ((CrewDead.mk_iff _ _ _).2 ?_)
          exact ⟨rfl, rfl, by rw [HCN.out]; simp only [Nat.add_assoc]; try omega⟩
        · rw [drop_set_succ]
          have h := congrArg (List.drop 1) HD.out
          simpa [List.drop_drop, Nat.add_comm] using h
      case measure => simp [intOf]; omega
    · obtain rfl : j = l.length := by omega
      have HO := hide hoj
      clear hoj hlj
      go_wp2
      go_ret
      have e1 : lj.take l.length = lj := List.take_of_length_le (by have := HL.out; omega)
      have e2 : l.take l.length = l := List.take_length
      have hmm := HM.out
      try rw [e1] at hmm
      try rw [e2] at hmm
      exact ⟨lj, (by first | exact rfl | (rw [e2]; exact rfl)), HL.out, HO.out, hmm, HT.out⟩
theorem markCrewDeadS_any (l : List CrewDead) : MarkCrewDeadS l := markCrewDeadS_of l
def HeldCrewDeadS (l : List CrewDead) : Prop := ∀ (A : Option Addr) (n c : Nat) (fp : List Nat) (z : Int) (a b : Nat) (w : World), z = a → Ow w (.s 2 l.length (l.flatMap CrewDead.cells)) (.slice A n c) fp → Lt fp w.heap.size → CrewDead.mkS l a b → b ≤ 1099511627776 →
  Calls Try.prog 88 #[.slice A n c, .int .i64 z] w fun e w' => e = .returned (.int .i64 (b : Nat)) ∧ Below w.heap.size w w'
set_option maxRecDepth 100000 in
set_option maxHeartbeats 1000000 in
theorem heldCrewDeadS_of (l : List CrewDead) : HeldCrewDeadS l := by
  intro A n c fp z a b w hz h hf hmk hbb
  subst hz
  obtain ⟨rfl, hc, hm⟩ := h.nlen
  unfold maxLen at hm
  have HMK := hide hmk
  have hab := CrewDead.mkS_le _ _ _ hmk
  clear hmk
  go_enter Try.func88, Try.ntmps88
  go_wp2
  go_loopw [1, 5] (fun u i wr => (∃ (j d : Nat), j ≤ l.length ∧ u = .int .i64 (d : Nat) ∧ i = .int .i64 (j : Nat) ∧ CrewDead.mkS (l.drop j) d b) ∧ Below w.heap.size w wr) (fun _ i _ => l.length - (intOf i).toNat)
  case atStart => exact ⟨⟨0, a, Nat.zero_le _, rfl, rfl, HMK.out⟩, Below.refl _ _⟩
  case round =>
    obtain ⟨⟨j, d, hj, rfl, rfl, hmj⟩, hbel⟩ := hrel
    have HB := hide hbel
    have HJ := hide hmj
    have hdb := CrewDead.mkS_le _ _ _ hmj
    clear hmj
    by_cases hlt : j < l.length
    · obtain ⟨g, off, us, fi, rfl, hg, hfi, hul, hcs, ho⟩ := (h.below HB.out hf).elem CrewDead.cells_len hlt
      obtain ⟨d2, hmx, hmr⟩ := CrewDead.mkS_drop l b j hlt d HJ.out
      have HR := hide hmr
      have hd2 := CrewDead.mkS_le _ _ _ hmr
      clear hmr
      have hgl : g < wr.heap.size := (hf.up HB.out) g hg
      have hfl := (hf.up HB.out).sub hfi
      generalize l[j] = x at *
      obtain ⟨rfl, w0, w1, rfl⟩ := ho.oCrewDead
      obtain ⟨m0, m1, hd2e⟩ := (x.mk_iff _ _).1 hmx
      have HD := hide hd2e
      clear hd2e hmx
      have p0 := hcs 0 _ rfl
      have p1 := hcs 1 _ rfl
      simp only [Nat.add_zero] at p0
      rw [m0] at p0
      rw [m1] at p1
      have hbd : d2 ≤ 1099511627776 := by omega
      have z0 : d + 1 ≤ d2 := by have := HD.out; omega
      have z1 : d + 2 ≤ d2 := by have := HD.out; omega
      have hend : d + 2 ≤ d2 := by have := HD.out; omega
      clear m0 m1 hcs ho
      clear hfl
      have B0 := hide (Below.refl wr.heap.size wr)
      go_wp2
      go_roundw
      case rel => exact ⟨⟨j + 1, d2, by omega, by (rw [HD.out]; try go_num), by go_num, HR.out⟩, HB.out.trans (B0.out.mono HB.out.size)⟩
      case measure => simp [intOf]; omega
    · obtain rfl : j = l.length := by omega
      have e := HJ.out
      rw [List.drop_length] at e
      simp only [CrewDead.mkS] at e
      subst e
      clear HJ
      go_wp2
      go_ret
      exact ⟨rfl, HB.out⟩
theorem heldCrewDeadS_any (l : List CrewDead) : HeldCrewDeadS l := heldCrewDeadS_of l
end Go.Proofs.Ytpkjjfnfolbcoaa
set_option linter.unusedVariables false
set_option linter.unusedSimpArgs false
namespace Go.Proofs.Ytpkjjfnfolbcoaa
open Go.ChangeShapes Go.WideShapes Go.ChangeAt Go.RowKit
def CrewTold.mkTop (x : CrewTold) (a b : Nat) : Prop := ∃ e1, MkIntS x.items a e1 ∧ CrewDead.mkS x.dead e1 b
def CrewTold.cntTop (x : CrewTold) : Nat := x.items.length + CrewDead.cntS x.dead
theorem CrewTold.cntTop_eq (x : CrewTold) : x.cntTop = x.items.length + CrewDead.cntS x.dead := rfl
set_option maxRecDepth 100000 in
set_option maxHeartbeats 1000000 in
theorem markCrewTold_any (x : CrewTold) (us : List Value) (fp : List Nat) (lo : Nat) (z : Int) (k0 : Nat) (w : World) (hz : z = k0) (ho : OwC w x.cells us fp) (hn : New w fp lo) (hb : k0 + x.cntTop ≤ 1099511627776) :
    Calls Try.prog 35 #[.agg us.toArray, .int .i64 z] w fun e w' => ∃ (x' : CrewTold), e = .returned (.int .i64 ((k0 + x.cntTop : Nat) : Int)) ∧ OwC w' x'.cells us fp ∧ x'.mkTop k0 (k0 + x.cntTop) ∧ Touch fp w w' := by
  subst hz
  have hc := x.cntTop_eq
  obtain ⟨A1, c1, A2, c2, f1, f2, rfl, o1, o2, w3, w4, w5, rfl⟩ := ho.oCrewTold
  have hw0 : Below w.heap.size w (w.alloc (.cells #[.bool x.ok, .slice A1 x.items.length c1, .slice A2 x.dead.length c2, .int .i64 x.jobs, .int .i64 x.steps, .int .i64 x.ops] 45)) := (Below.refl _ _).alloc (Nat.le_refl _) _
  have R0 : Row (w.alloc (.cells #[.bool x.ok, .slice A1 x.items.length c1, .slice A2 x.dead.length c2, .int .i64 x.jobs, .int .i64 x.steps, .int .i64 x.ops] 45)) w.heap.size 45 [.bool x.ok, .slice A1 x.items.length c1, .slice A2 x.dead.length c2, .int .i64 x.jobs, .int .i64 x.steps, .int .i64 x.ops] := Row.new w _ _
  have n1 := hn.left
  have r1 := hn.right
  have dj1 := (List.nodup_append.1 hn.nd).2.2
  have n2 := r1
  have O1 := hide (o1.below hw0 n1.lt)
  have N1 := hide (n1.alloc (.cells #[.bool x.ok, .slice A1 x.items.length c1, .slice A2 x.dead.length c2, .int .i64 x.jobs, .int .i64 x.steps, .int .i64 x.ops] 45))
  have nb1 : w.heap.size ∉ f1 := fun h => Nat.lt_irrefl _ (n1.lt _ h)
  have O2 := hide (o2.below hw0 n2.lt)
  have N2 := hide (n2.alloc (.cells #[.bool x.ok, .slice A1 x.items.length c1, .slice A2 x.dead.length c2, .int .i64 x.jobs, .int .i64 x.steps, .int .i64 x.ops] 45))
  have nb2 : w.heap.size ∉ f2 := fun h => Nat.lt_irrefl _ (n2.lt _ h)
  have dd1_2 : ∀ g ∈ f2, g ∉ f1 := fun g hg h => dj1 _ h _ hg rfl
  clear ho o1 o2 hn
  have T0 := hide (Touch.below (fp := f1 ++ (f2)) hw0)
  go_enter Try.func35, Try.ntmps35
  go_wp2_with fail
  refine (markIntS_any x.items _ _ _ f1 lo _ (k0) _ (by omega) O1.out N1.out (by omega)).mono ?_
  rintro e w1_ ⟨y1, rfl, yl1, yo1, ym1, t1⟩
  have T1 := hide (T0.out.trans (t1.mono (by intro g hg; simp [hg])))
  have YO1 := hide yo1
  have YM1 := hide ym1
  have YL1 := hide yl1
  clear yo1 ym1 yl1
  have R1 : Row w1_ w.heap.size 45 [.bool x.ok, .slice A1 x.items.length c1, .slice A2 x.dead.length c2, .int .i64 x.jobs, .int .i64 x.steps, .int .i64 x.ops] := (t1.block _ R0.lt nb1).trans R0
  have O2 := hide (O2.out.touch t1 N2.out.lt dd1_2)
  have N2 := hide (t1.new N2.out)
  have M1 := hide (t1.new N1.out)
  clear t1
  have lt1 := R1.lt
  have cc1 := R1.cell 2
  go_wp2_with fail
  refine (markCrewDeadS_any x.dead _ _ _ f2 lo _ ((k0) + x.items.length) _ (by omega) O2.out N2.out (by omega)).mono ?_
  rintro e w2_ ⟨y2, rfl, yl2, yo2, ym2, t2⟩
  have T2 := hide (T1.out.trans (t2.mono (by intro g hg; simp [hg])))
  have YO2 := hide yo2
  have YM2 := hide ym2
  have YL2 := hide yl2
  clear yo2 ym2 yl2
  have R2 : Row w2_ w.heap.size 45 [.bool x.ok, .slice A1 x.items.length c1, .slice A2 x.dead.length c2, .int .i64 x.jobs, .int .i64 x.steps, .int .i64 x.ops] := (t2.block _ R1.lt nb2).trans R1
  have YO1 := hide (YO1.out.touch t2 M1.out.lt (fun g hg h => dd1_2 g h hg))
  have M1 := hide (t2.new M1.out)
  have M2 := hide (t2.new N2.out)
  clear t2
  have lt2 := R2.lt
  go_wp2
  go_ret
  refine ⟨(CrewTold.mk x.ok y1 y2 x.jobs x.steps x.ops), ret_int (by omega), OwC.mCrewTold YO1.out YO2.out w3 w4 w5, ?_, ?_⟩
  · refine ⟨_, YM1.out, ?_⟩
    have h := YM2.out
    rw [hc]
    (try simp only [Nat.add_assoc] at h)
    (try simp only [Nat.add_assoc])
    exact h
  · exact T2.out
set_option maxRecDepth 100000 in
set_option maxHeartbeats 1000000 in
theorem heldCrewTold_any (x : CrewTold) (us : List Value) (fp : List Nat) (z : Int) (a b : Nat) (w : World) (hz : z = a) (ho : OwC w x.cells us fp) (hf : Lt fp w.heap.size) (hmk : x.mkTop a b) (hb : b ≤ 1099511627776) :
    Calls Try.prog 36 #[.agg us.toArray, .int .i64 z] w fun e w' => e = .returned (.int .i64 (b : Nat)) ∧ Below w.heap.size w w' := by
  subst hz
  obtain ⟨A1, c1, A2, c2, f1, f2, rfl, o1, o2, w3, w4, w5, rfl⟩ := ho.oCrewTold
  obtain ⟨e1, m1, m2⟩ := hmk
  have hw0 : Below w.heap.size w (w.alloc (.cells #[.bool x.ok, .slice A1 x.items.length c1, .slice A2 x.dead.length c2, .int .i64 x.jobs, .int .i64 x.steps, .int .i64 x.ops] 45)) := (Below.refl _ _).alloc (Nat.le_refl _) _
  have R0 : Row (w.alloc (.cells #[.bool x.ok, .slice A1 x.items.length c1, .slice A2 x.dead.length c2, .int .i64 x.jobs, .int .i64 x.steps, .int .i64 x.ops] 45)) w.heap.size 45 [.bool x.ok, .slice A1 x.items.length c1, .slice A2 x.dead.length c2, .int .i64 x.jobs, .int .i64 x.steps, .int .i64 x.ops] := Row.new w _ _
  have fl1 := hf.left
  have fl2 := (hf).right
  have le2 := CrewDead.mkS_le _ _ _ m2
  have le1 : a ≤ e1 := by have := m1.1; omega
  have O1 := hide o1
  have HM1 := hide m1
  have O2 := hide o2
  have HM2 := hide m2
  have B0 := hide hw0
  clear ho hf hw0 o1 m1 o2 m2
  go_enter Try.func36, Try.ntmps36
  go_wp2_with fail
  refine (heldIntS_any x.items _ _ _ f1 _ a e1 _ (by omega) (O1.out.below B0.out fl1) (fl1.up B0.out) HM1.out (by omega)).mono ?_
  rintro e w1_ ⟨rfl, hb1⟩
  have B1 := hide (B0.out.trans (hb1.mono B0.out.size))
  have R1 := R0.below hb1 R0.lt
  have lt1 := R1.lt
  have cc1 := R1.cell 2
  clear hb1
  go_wp2_with fail
  refine (heldCrewDeadS_any x.dead _ _ _ f2 _ e1 b _ (by omega) (O2.out.below B1.out fl2) (fl2.up B1.out) HM2.out (by omega)).mono ?_
  rintro e w2_ ⟨rfl, hb2⟩
  have B2 := hide (B1.out.trans (hb2.mono B1.out.size))
  have R2 := R1.below hb2 R1.lt
  have lt2 := R2.lt
  clear hb2
  go_wp2
  go_ret
  exact ⟨rfl, B2.out⟩
end Go.Proofs.Ytpkjjfnfolbcoaa
