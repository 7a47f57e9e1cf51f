/-
  LogPart: what the laws' marks write, and that they are found again. The laws' marks at a LogPlan by value: only its slices are marked.
-/
import Derived.Test.YtddjgbhkfdpffaaGreatDoorORead
import Derived.Test.YtddjgbhkfdpffaaGreatDoorODLogPart
import Derived.Test.YtddjgbhkfdpffaaGreatDoorOMark
set_option linter.unusedVariables false
set_option linter.unusedSimpArgs false
namespace Go.Proofs.YtddjgbhkfdpffaaGreatDoor
open Go.ChangeShapes Go.WideShapes Go.ChangeAt Go.RowKit

def LogPart.mk_ (x : LogPart) (a b : Nat) : Prop := x.num = ((a : Nat) : Int) ∧ x.first = (((a + 1) : Nat) : Int) ∧ x.next = (((a + 2) : Nat) : Int) ∧ x.size = (((a + 3) : Nat) : Int) ∧ b = a + 4
def LogPart.mkS : List LogPart → Nat → Nat → Prop
  | [], a, b => a = b
  | x :: r, a, b => ∃ c, x.mk_ a c ∧ LogPart.mkS r c b
def LogPart.cnt (x : LogPart) : Nat := 4
def LogPart.cntS : List LogPart → Nat
  | [] => 0
  | x :: r => x.cnt + LogPart.cntS r
theorem LogPart.mk_iff (x : LogPart) (a b : Nat) : x.mk_ a b ↔ x.num = ((a : Nat) : Int) ∧ x.first = (((a + 1) : Nat) : Int) ∧ x.next = (((a + 2) : Nat) : Int) ∧ x.size = (((a + 3) : Nat) : Int) ∧ b = a + 4 := Iff.rfl
theorem LogPart.cnt_eq (x : LogPart) : x.cnt = 4 := rfl
theorem LogPart.mkS_snoc : ∀ (l : List LogPart) (x : LogPart) (a c b : Nat), LogPart.mkS l a c → x.mk_ c b → LogPart.mkS (l ++ [x]) a b
  | [], x, a, c, b, h, hx => by
    simp only [LogPart.mkS] at h
    subst h
    exact ⟨b, hx, rfl⟩
  | y :: r, x, a, c, b, h, hx => by
    obtain ⟨d, h1, h2⟩ := h
    exact ⟨d, h1, LogPart.mkS_snoc r x d c b h2 hx⟩
theorem LogPart.mkS_drop : ∀ (l : List LogPart) (b : Nat) (k : Nat) (h : k < l.length) (c : Nat), LogPart.mkS (l.drop k) c b → ∃ d, l[k].mk_ c d ∧ LogPart.mkS (l.drop (k + 1)) d b
  | x :: r, b, 0, _, c, h => by
    obtain ⟨d, h1, h2⟩ := h
    exact ⟨d, h1, h2⟩
  | x :: r, b, k + 1, hk, c, h => LogPart.mkS_drop r b k (by simpa using hk) c h
theorem LogPart.cntS_append (a b : List LogPart) : LogPart.cntS (a ++ b) = LogPart.cntS a + LogPart.cntS b := by
  induction a with
  | nil => simp [LogPart.cntS]
  | cons x a ih => simp [LogPart.cntS, ih]; omega
theorem LogPart.cntS_snoc (l : List LogPart) (k : Nat) (h : k < l.length) : LogPart.cntS (l.take (k + 1)) = LogPart.cntS (l.take k) + l[k].cnt := by
  rw [List.take_succ_eq_append_getElem h, LogPart.cntS_append]
  simp [LogPart.cntS]
theorem LogPart.cntS_le (l : List LogPart) (k : Nat) : LogPart.cntS (l.take k) ≤ LogPart.cntS l := by
  conv => rhs; rw [← List.take_append_drop k l, LogPart.cntS_append]
  omega
theorem LogPart.mk_le (x : LogPart) (a b : Nat) (h : x.mk_ a b) : a ≤ b := by
  obtain ⟨h0, h1, h2, h3, hb⟩ := (x.mk_iff a b).1 h
  skip
  omega
theorem LogPart.mkS_le : ∀ (l : List LogPart) (a b : Nat), LogPart.mkS l a b → a ≤ b
  | [], a, b, h => by simp only [LogPart.mkS] at h; omega
  | x :: r, a, b, h => by
    obtain ⟨c, h1, h2⟩ := h
    exact Nat.le_trans (x.mk_le _ _ h1) (LogPart.mkS_le r _ _ h2)

def MarkLogPartS (l : List LogPart) : Prop := ∀ (A : Option Addr) (n c : Nat) (fp : List Nat) (lo : Nat) (z : Int) (k0 : Nat) (w : World), z = k0 → Ow w (.s 4 l.length (l.flatMap LogPart.cells)) (.slice A n c) fp → New w fp lo → k0 + LogPart.cntS l ≤ 1099511627776 →
  Calls Tryz.prog 99 #[.slice A n c, .int .i64 z] w fun e w' => ∃ (l' : List LogPart), e = .returned (.int .i64 ((k0 + LogPart.cntS l : Nat) : Int)) ∧ l'.length = l.length ∧ Ow w' (.s 4 l'.length (l'.flatMap LogPart.cells)) (.slice A n c) fp ∧ LogPart.mkS l' k0 (k0 + LogPart.cntS l) ∧ Touch fp w w'
set_option maxRecDepth 100000 in
set_option maxHeartbeats 1000000 in
theorem markLogPartS_of (l : List LogPart) : MarkLogPartS l := by
  intro A n c fp lo z k0 w hz h hn hb
  subst hz
  obtain ⟨rfl, hc, hm⟩ := h.nlen
  unfold maxLen at hm
  go_enter Tryz.func99, Tryz.ntmps99
  go_wp2
  go_loopw [1, 5] (fun a i wr => (∃ (j : Nat) (lj : List LogPart), j ≤ l.length ∧ lj.length = l.length ∧ a = .int .i64 ((k0 + LogPart.cntS (l.take j) : Nat) : Int) ∧ i = .int .i64 (j : Nat) ∧ Ow wr (.s 4 lj.length (lj.flatMap LogPart.cells)) (.slice A l.length c) fp ∧ LogPart.mkS (lj.take j) k0 (k0 + LogPart.cntS (l.take j)) ∧ lj.drop j = l.drop j) ∧ Touch fp w wr) (fun _ i _ => l.length - (intOf i).toNat)
  case atStart => exact ⟨⟨0, l, Nat.zero_le _, rfl, by simp [LogPart.cntS], rfl, h, by simp [LogPart.cntS, LogPart.mkS], rfl⟩, Touch.refl _ _⟩
  case round =>
    obtain ⟨⟨j, lj, hj, hlj, rfl, rfl, hoj, hmj, hdj⟩, ht⟩ := hrel
    have HN := hide (ht.new hn)
    have HT := hide ht
    have HM := hide hmj
    have HL := hide hlj
    have HD := hide hdj
    clear hmj ht hdj
    by_cases hlt : j < l.length
    · have hltj : j < lj.length := by omega
      have hxe : lj[j] = l[j] := by
        have h1 : (lj.drop j)[0]? = (l.drop j)[0]? := by rw [HD.out]
        simpa [List.getElem?_drop, List.getElem?_eq_getElem hlt, List.getElem?_eq_getElem hltj] using h1
      have HS := hide (LogPart.cntS_snoc l j hlt)
      have hle := LogPart.cntS_le l (j + 1)
      obtain ⟨g, off, us, fi, rfl, hg, hfi, hgi, hnd, hul, hcs, hov, hput⟩ := hoj.upd LogPart.cells_len HN.out.nd hltj
      rw [hxe] at hov
      have HCN := hide (l[j].cnt_eq)
      clear hxe
      generalize hxx : l[j] = x at *
      have HXX := hide hxx
      clear hxx
      have hbb : k0 + LogPart.cntS (l.take j) + (4) ≤ 1099511627776 := by have h1 := HS.out; have h2 := HCN.out; have h3 : LogPart.cntS l ≥ LogPart.cntS (l.take (j + 1)) := hle; omega
      obtain ⟨rfl, w0, w1, w2, w3, rfl⟩ := hov.oLogPart
      have p0 := hcs 0 _ rfl
      have p1 := hcs 1 _ rfl
      have p2 := hcs 2 _ rfl
      have p3 := hcs 3 _ rfl
      simp only [Nat.add_zero] at p0
      have hu := HN.out.uf g hg
      have hgl := HN.out.lt g hg
      have hfl : Lt ([]) wr.heap.size := HN.out.lt.sub hfi
      have q0 := unf_frozen hu (off + j * 4)
      have q1 := unf_frozen hu (off + j * 4 + 1)
      have q2 := unf_frozen hu (off + j * 4 + 2)
      have q3 := unf_frozen hu (off + j * 4 + 3)
      have HP := hide hput
      clear hcs hput hov hlj hoj
      have seg0 : Seg g (off + j * 4) (off + j * 4 + 4) [] wr wr := Seg.refl _ _ _ _ _
      go_wp2
      go_roundw
      case rel =>
        have hseg := Seg.mono (fj := []) ((((seg0.setCell (o := off + j * 4) (by omega) (by omega) (.int .i64 (((k0 + LogPart.cntS (l.take j)) : Nat) : Int))).setCell (o := off + j * 4 + 1) (by omega) (by omega) (.int .i64 ((((k0 + LogPart.cntS (l.take j)) + 1) : Nat) : Int))).setCell (o := off + j * 4 + 2) (by omega) (by omega) (.int .i64 ((((k0 + LogPart.cntS (l.take j)) + 2) : Nat) : Int))).setCell (o := off + j * 4 + 3) (by omega) (by omega) (.int .i64 ((((k0 + LogPart.cntS (l.take j)) + 3) : Nat) : Int))) (by intro b hb; first | (cases hb; done) | exact hb | (simp only [List.nil_append, List.append_assoc, List.mem_append, List.mem_cons, List.not_mem_nil, or_false, false_or] at hb ⊢; simp [hb]))
        have hnew := HP.out _ (LogPart.mk ((((k0 + LogPart.cntS (l.take j)) : Nat) : Int)) (((((k0 + LogPart.cntS (l.take j)) + 1) : Nat) : Int)) (((((k0 + LogPart.cntS (l.take j)) + 2) : Nat) : Int)) (((((k0 + LogPart.cntS (l.take j)) + 3) : Nat) : Int))) [.int .i64 (((k0 + LogPart.cntS (l.take j)) : Nat) : Int), .int .i64 ((((k0 + LogPart.cntS (l.take j)) + 1) : Nat) : Int), .int .i64 ((((k0 + LogPart.cntS (l.take j)) + 2) : Nat) : Int), .int .i64 ((((k0 + LogPart.cntS (l.take j)) + 3) : Nat) : Int)] (by
          have h := OwC.mLogPart (w := ((((wr.setCell ⟨g, off + j * 4, none⟩ (.int .i64 (((k0 + LogPart.cntS (l.take j)) : Nat) : Int))).setCell ⟨g, off + j * 4 + 1, none⟩ (.int .i64 ((((k0 + LogPart.cntS (l.take j)) + 1) : Nat) : Int))).setCell ⟨g, off + j * 4 + 2, none⟩ (.int .i64 ((((k0 + LogPart.cntS (l.take j)) + 2) : Nat) : Int))).setCell ⟨g, off + j * 4 + 3, none⟩ (.int .i64 ((((k0 + LogPart.cntS (l.take j)) + 3) : Nat) : Int)))) (x := (LogPart.mk ((((k0 + LogPart.cntS (l.take j)) : Nat) : Int)) (((((k0 + LogPart.cntS (l.take j)) + 1) : Nat) : Int)) (((((k0 + LogPart.cntS (l.take j)) + 2) : Nat) : Int)) (((((k0 + LogPart.cntS (l.take j)) + 3) : Nat) : Int)))) (by show (Lit.int .i64 (((k0 + LogPart.cntS (l.take j)) : Nat) : Int)).wf = true; exact WalkArith.wf_i64 (by have := HCN.out; have := HS.out; omega)) (by show (Lit.int .i64 ((((k0 + LogPart.cntS (l.take j)) + 1) : Nat) : Int)).wf = true; exact WalkArith.wf_i64 (by have := HCN.out; have := HS.out; omega)) (by show (Lit.int .i64 ((((k0 + LogPart.cntS (l.take j)) + 2) : Nat) : Int)).wf = true; exact WalkArith.wf_i64 (by have := HCN.out; have := HS.out; omega)) (by show (Lit.int .i64 ((((k0 + LogPart.cntS (l.take j)) + 3) : Nat) : Int)).wf = true; exact WalkArith.wf_i64 (by have := HCN.out; have := HS.out; omega))
          first | exact h | simpa using h) (fun i u hi => by
          match i, hi with
          | 0, hi => simp at hi; subst hi; go_simp
          | 1, hi => simp at hi; subst hi; go_simp
          | 2, hi => simp at hi; subst hi; go_simp
          | 3, hi => simp at hi; subst hi; go_simp) hseg HN.out.lt
        refine ⟨⟨j + 1, lj.set j (LogPart.mk ((((k0 + LogPart.cntS (l.take j)) : Nat) : Int)) (((((k0 + LogPart.cntS (l.take j)) + 1) : Nat) : Int)) (((((k0 + LogPart.cntS (l.take j)) + 2) : Nat) : Int)) (((((k0 + LogPart.cntS (l.take j)) + 3) : Nat) : Int))), by omega, by simpa using HL.out, by rw [HS.out, HCN.out]; go_num, by go_num, by rw [List.length_set]; exact hnew, ?_, ?_⟩, HT.out.trans (hseg.to_touch hg hfi)⟩
        · rw [take_set_succ lj j _ (by have := HL.out; omega), HS.out]
          refine LogPart.mkS_snoc _ _ _ _ _ HM.out ((LogPart.mk_iff _ _ _).2 ?_)
          exact ⟨rfl, rfl, rfl, rfl, by rw [HCN.out]; simp only [Nat.add_assoc]; try omega⟩
        · rw [drop_set_succ]
          have h := congrArg (List.drop 1) HD.out
          simpa [List.drop_drop, Nat.add_comm] using h
      case measure => simp [intOf]; omega
    · obtain rfl : j = l.length := by omega
      have HO := hide hoj
      clear hoj hlj
      go_wp2
      go_ret
      have e1 : lj.take l.length = lj := List.take_of_length_le (by have := HL.out; omega)
      have e2 : l.take l.length = l := List.take_length
      have hmm := HM.out
      try rw [e1] at hmm
      try rw [e2] at hmm
      exact ⟨lj, (by first | exact rfl | (rw [e2]; exact rfl)), HL.out, HO.out, hmm, HT.out⟩
theorem markLogPartS_any (l : List LogPart) : MarkLogPartS l := markLogPartS_of l
def HeldLogPartS (l : List LogPart) : Prop := ∀ (A : Option Addr) (n c : Nat) (fp : List Nat) (z : Int) (a b : Nat) (w : World), z = a → Ow w (.s 4 l.length (l.flatMap LogPart.cells)) (.slice A n c) fp → Lt fp w.heap.size → LogPart.mkS l a b → b ≤ 1099511627776 →
  Calls Tryz.prog 100 #[.slice A n c, .int .i64 z] w fun e w' => e = .returned (.int .i64 (b : Nat)) ∧ Below w.heap.size w w'
set_option maxRecDepth 100000 in
set_option maxHeartbeats 1000000 in
theorem heldLogPartS_of (l : List LogPart) : HeldLogPartS l := by
  intro A n c fp z a b w hz h hf hmk hbb
  subst hz
  obtain ⟨rfl, hc, hm⟩ := h.nlen
  unfold maxLen at hm
  have HMK := hide hmk
  have hab := LogPart.mkS_le _ _ _ hmk
  clear hmk
  go_enter Tryz.func100, Tryz.ntmps100
  go_wp2
  go_loopw [1, 5] (fun u i wr => (∃ (j d : Nat), j ≤ l.length ∧ u = .int .i64 (d : Nat) ∧ i = .int .i64 (j : Nat) ∧ LogPart.mkS (l.drop j) d b) ∧ Below w.heap.size w wr) (fun _ i _ => l.length - (intOf i).toNat)
  case atStart => exact ⟨⟨0, a, Nat.zero_le _, rfl, rfl, HMK.out⟩, Below.refl _ _⟩
  case round =>
    obtain ⟨⟨j, d, hj, rfl, rfl, hmj⟩, hbel⟩ := hrel
    have HB := hide hbel
    have HJ := hide hmj
    have hdb := LogPart.mkS_le _ _ _ hmj
    clear hmj
    by_cases hlt : j < l.length
    · obtain ⟨g, off, us, fi, rfl, hg, hfi, hul, hcs, ho⟩ := (h.below HB.out hf).elem LogPart.cells_len hlt
      obtain ⟨d2, hmx, hmr⟩ := LogPart.mkS_drop l b j hlt d HJ.out
      have HR := hide hmr
      have hd2 := LogPart.mkS_le _ _ _ hmr
      clear hmr
      have hgl : g < wr.heap.size := (hf.up HB.out) g hg
      have hfl := (hf.up HB.out).sub hfi
      generalize l[j] = x at *
      obtain ⟨rfl, w0, w1, w2, w3, rfl⟩ := ho.oLogPart
      obtain ⟨m0, m1, m2, m3, hd2e⟩ := (x.mk_iff _ _).1 hmx
      have HD := hide hd2e
      clear hd2e hmx
      have p0 := hcs 0 _ rfl
      have p1 := hcs 1 _ rfl
      have p2 := hcs 2 _ rfl
      have p3 := hcs 3 _ rfl
      simp only [Nat.add_zero] at p0
      rw [m0] at p0
      rw [m1] at p1
      rw [m2] at p2
      rw [m3] at p3
      have hbd : d2 ≤ 1099511627776 := by omega
      have z0 : d + 1 ≤ d2 := by have := HD.out; omega
      have z1 : d + 2 ≤ d2 := by have := HD.out; omega
      have z2 : d + 3 ≤ d2 := by have := HD.out; omega
      have z3 : d + 4 ≤ d2 := by have := HD.out; omega
      have hend : d + 4 ≤ d2 := by have := HD.out; omega
      clear m0 m1 m2 m3 hcs ho
      clear hfl
      have B0 := hide (Below.refl wr.heap.size wr)
      go_wp2
      go_roundw
      case rel => exact ⟨⟨j + 1, d2, by omega, by (rw [HD.out]; try go_num), by go_num, HR.out⟩, HB.out.trans (B0.out.mono HB.out.size)⟩
      case measure => simp [intOf]; omega
    · obtain rfl : j = l.length := by omega
      have e := HJ.out
      rw [List.drop_length] at e
      simp only [LogPart.mkS] at e
      subst e
      clear HJ
      go_wp2
      go_ret
      exact ⟨rfl, HB.out⟩
theorem heldLogPartS_any (l : List LogPart) : HeldLogPartS l := heldLogPartS_of l
end Go.Proofs.YtddjgbhkfdpffaaGreatDoor
set_option linter.unusedVariables false
set_option linter.unusedSimpArgs false
namespace Go.Proofs.YtddjgbhkfdpffaaGreatDoor
open Go.ChangeShapes Go.WideShapes Go.ChangeAt Go.RowKit
def LogPlan.mkTop (x : LogPlan) (a b : Nat) : Prop := LogPart.mkS x.parts a b
def LogPlan.cntTop (x : LogPlan) : Nat := LogPart.cntS x.parts
theorem LogPlan.cntTop_eq (x : LogPlan) : x.cntTop = LogPart.cntS x.parts := rfl
set_option maxRecDepth 100000 in
set_option maxHeartbeats 1000000 in
theorem markLogPlan_any (x : LogPlan) (us : List Value) (fp : List Nat) (lo : Nat) (z : Int) (k0 : Nat) (w : World) (hz : z = k0) (ho : OwC w x.cells us fp) (hn : New w fp lo) (hb : k0 + x.cntTop ≤ 1099511627776) :
    Calls Tryz.prog 49 #[.agg us.toArray, .int .i64 z] w fun e w' => ∃ (x' : LogPlan), e = .returned (.int .i64 ((k0 + x.cntTop : Nat) : Int)) ∧ OwC w' x'.cells us fp ∧ x'.mkTop k0 (k0 + x.cntTop) ∧ Touch fp w w' := by
  subst hz
  have hc := x.cntTop_eq
  obtain ⟨A1, c1, f1, rfl, o1, w1, w2, rfl⟩ := ho.oLogPlan
  have hw0 : Below w.heap.size w (w.alloc (.cells #[.slice A1 x.parts.length c1, .int .i64 x.open_, .int .i64 x.first] 30)) := (Below.refl _ _).alloc (Nat.le_refl _) _
  have R0 : Row (w.alloc (.cells #[.slice A1 x.parts.length c1, .int .i64 x.open_, .int .i64 x.first] 30)) w.heap.size 30 [.slice A1 x.parts.length c1, .int .i64 x.open_, .int .i64 x.first] := Row.new w _ _
  have n1 := hn
  have O1 := hide (o1.below hw0 n1.lt)
  have N1 := hide (n1.alloc (.cells #[.slice A1 x.parts.length c1, .int .i64 x.open_, .int .i64 x.first] 30))
  have nb1 : w.heap.size ∉ fp := fun h => Nat.lt_irrefl _ (n1.lt _ h)
  clear ho o1 hn
  have T0 := hide (Touch.below (fp := fp) hw0)
  go_enter Tryz.func49, Tryz.ntmps49
  go_wp2_with fail
  refine (markLogPartS_any x.parts _ _ _ fp lo _ (k0) _ (by omega) O1.out N1.out (by omega)).mono ?_
  rintro e w1_ ⟨y1, rfl, yl1, yo1, ym1, t1⟩
  have T1 := hide (T0.out.trans (t1.mono (by intro g hg; simp [hg])))
  have YO1 := hide yo1
  have YM1 := hide ym1
  have YL1 := hide yl1
  clear yo1 ym1 yl1
  have R1 : Row w1_ w.heap.size 30 [.slice A1 x.parts.length c1, .int .i64 x.open_, .int .i64 x.first] := (t1.block _ R0.lt nb1).trans R0
  have M1 := hide (t1.new N1.out)
  clear t1
  have lt1 := R1.lt
  go_wp2
  go_ret
  refine ⟨(LogPlan.mk y1 x.open_ x.first), ret_int (by omega), OwC.mLogPlan YO1.out w1 w2, ?_, ?_⟩
  · skip
    have h := YM1.out
    rw [hc]
    (try simp only [Nat.add_assoc] at h)
    (try simp only [Nat.add_assoc])
    exact h
  · exact T1.out
set_option maxRecDepth 100000 in
set_option maxHeartbeats 1000000 in
theorem heldLogPlan_any (x : LogPlan) (us : List Value) (fp : List Nat) (z : Int) (a b : Nat) (w : World) (hz : z = a) (ho : OwC w x.cells us fp) (hf : Lt fp w.heap.size) (hmk : x.mkTop a b) (hb : b ≤ 1099511627776) :
    Calls Tryz.prog 51 #[.agg us.toArray, .int .i64 z] w fun e w' => e = .returned (.int .i64 (b : Nat)) ∧ Below w.heap.size w w' := by
  subst hz
  obtain ⟨A1, c1, f1, rfl, o1, w1, w2, rfl⟩ := ho.oLogPlan
  have m1 := hmk
  have hw0 : Below w.heap.size w (w.alloc (.cells #[.slice A1 x.parts.length c1, .int .i64 x.open_, .int .i64 x.first] 30)) := (Below.refl _ _).alloc (Nat.le_refl _) _
  have R0 : Row (w.alloc (.cells #[.slice A1 x.parts.length c1, .int .i64 x.open_, .int .i64 x.first] 30)) w.heap.size 30 [.slice A1 x.parts.length c1, .int .i64 x.open_, .int .i64 x.first] := Row.new w _ _
  have fl1 := hf
  have le1 := LogPart.mkS_le _ _ _ m1
  have O1 := hide o1
  have HM1 := hide m1
  have B0 := hide hw0
  clear ho hf hw0 o1 m1
  go_enter Tryz.func51, Tryz.ntmps51
  go_wp2_with fail
  refine (heldLogPartS_any x.parts _ _ _ fp _ a b _ (by omega) (O1.out.below B0.out fl1) (fl1.up B0.out) HM1.out (by omega)).mono ?_
  rintro e w1_ ⟨rfl, hb1⟩
  have B1 := hide (B0.out.trans (hb1.mono B0.out.size))
  have R1 := R0.below hb1 R0.lt
  have lt1 := R1.lt
  clear hb1
  go_wp2
  go_ret
  exact ⟨rfl, B1.out⟩
end Go.Proofs.YtddjgbhkfdpffaaGreatDoor
