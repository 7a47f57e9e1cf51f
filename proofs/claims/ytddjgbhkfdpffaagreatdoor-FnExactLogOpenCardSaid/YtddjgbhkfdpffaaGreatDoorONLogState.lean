/-
  LogRecord: what the laws' marks write, and that they are found again. The laws' marks at a LogState by value: only its slices are marked.
-/
import Derived.Test.YtddjgbhkfdpffaaGreatDoorODLogPart
import Derived.Test.YtddjgbhkfdpffaaGreatDoorORDisk
import Derived.Test.YtddjgbhkfdpffaaGreatDoorOMark
import Derived.Test.YtddjgbhkfdpffaaGreatDoorONLogPlan
set_option linter.unusedVariables false
set_option linter.unusedSimpArgs false
namespace Go.Proofs.YtddjgbhkfdpffaaGreatDoor
open Go.ChangeShapes Go.WideShapes Go.ChangeAt Go.RowKit

def LogRecord.mk_ (x : LogRecord) (a b : Nat) : Prop := x.pos = ((a : Nat) : Int) ∧ x.data = mtext (a + 1) ∧ b = a + 2
def LogRecord.mkS : List LogRecord → Nat → Nat → Prop
  | [], a, b => a = b
  | x :: r, a, b => ∃ c, x.mk_ a c ∧ LogRecord.mkS r c b
def LogRecord.cnt (x : LogRecord) : Nat := 2
def LogRecord.cntS : List LogRecord → Nat
  | [] => 0
  | x :: r => x.cnt + LogRecord.cntS r
theorem LogRecord.mk_iff (x : LogRecord) (a b : Nat) : x.mk_ a b ↔ x.pos = ((a : Nat) : Int) ∧ x.data = mtext (a + 1) ∧ b = a + 2 := Iff.rfl
theorem LogRecord.cnt_eq (x : LogRecord) : x.cnt = 2 := rfl
theorem LogRecord.mkS_snoc : ∀ (l : List LogRecord) (x : LogRecord) (a c b : Nat), LogRecord.mkS l a c → x.mk_ c b → LogRecord.mkS (l ++ [x]) a b
  | [], x, a, c, b, h, hx => by
    simp only [LogRecord.mkS] at h
    subst h
    exact ⟨b, hx, rfl⟩
  | y :: r, x, a, c, b, h, hx => by
    obtain ⟨d, h1, h2⟩ := h
    exact ⟨d, h1, LogRecord.mkS_snoc r x d c b h2 hx⟩
theorem LogRecord.mkS_drop : ∀ (l : List LogRecord) (b : Nat) (k : Nat) (h : k < l.length) (c : Nat), LogRecord.mkS (l.drop k) c b → ∃ d, l[k].mk_ c d ∧ LogRecord.mkS (l.drop (k + 1)) d b
  | x :: r, b, 0, _, c, h => by
    obtain ⟨d, h1, h2⟩ := h
    exact ⟨d, h1, h2⟩
  | x :: r, b, k + 1, hk, c, h => LogRecord.mkS_drop r b k (by simpa using hk) c h
theorem LogRecord.cntS_append (a b : List LogRecord) : LogRecord.cntS (a ++ b) = LogRecord.cntS a + LogRecord.cntS b := by
  induction a with
  | nil => simp [LogRecord.cntS]
  | cons x a ih => simp [LogRecord.cntS, ih]; omega
theorem LogRecord.cntS_snoc (l : List LogRecord) (k : Nat) (h : k < l.length) : LogRecord.cntS (l.take (k + 1)) = LogRecord.cntS (l.take k) + l[k].cnt := by
  rw [List.take_succ_eq_append_getElem h, LogRecord.cntS_append]
  simp [LogRecord.cntS]
theorem LogRecord.cntS_le (l : List LogRecord) (k : Nat) : LogRecord.cntS (l.take k) ≤ LogRecord.cntS l := by
  conv => rhs; rw [← List.take_append_drop k l, LogRecord.cntS_append]
  omega
theorem LogRecord.mk_le (x : LogRecord) (a b : Nat) (h : x.mk_ a b) : a ≤ b := by
  obtain ⟨h0, h1, hb⟩ := (x.mk_iff a b).1 h
  skip
  omega
theorem LogRecord.mkS_le : ∀ (l : List LogRecord) (a b : Nat), LogRecord.mkS l a b → a ≤ b
  | [], a, b, h => by simp only [LogRecord.mkS] at h; omega
  | x :: r, a, b, h => by
    obtain ⟨c, h1, h2⟩ := h
    exact Nat.le_trans (x.mk_le _ _ h1) (LogRecord.mkS_le r _ _ h2)

def MarkLogRecordS (l : List LogRecord) : Prop := ∀ (A : Option Addr) (n c : Nat) (fp : List Nat) (lo : Nat) (z : Int) (k0 : Nat) (w : World), z = k0 → Ow w (.s 2 l.length (l.flatMap LogRecord.cells)) (.slice A n c) fp → New w fp lo → k0 + LogRecord.cntS l ≤ 1099511627776 →
  Calls Tryz.prog 50 #[.slice A n c, .int .i64 z] w fun e w' => ∃ (l' : List LogRecord), e = .returned (.int .i64 ((k0 + LogRecord.cntS l : Nat) : Int)) ∧ l'.length = l.length ∧ Ow w' (.s 2 l'.length (l'.flatMap LogRecord.cells)) (.slice A n c) fp ∧ LogRecord.mkS l' k0 (k0 + LogRecord.cntS l) ∧ Touch fp w w'
set_option maxRecDepth 100000 in
set_option maxHeartbeats 1000000 in
theorem markLogRecordS_of (l : List LogRecord) : MarkLogRecordS l := by
  intro A n c fp lo z k0 w hz h hn hb
  subst hz
  obtain ⟨rfl, hc, hm⟩ := h.nlen
  unfold maxLen at hm
  go_enter Tryz.func50, Tryz.ntmps50
  go_wp2
  go_loopw [1, 5] (fun a i wr => (∃ (j : Nat) (lj : List LogRecord), j ≤ l.length ∧ lj.length = l.length ∧ a = .int .i64 ((k0 + LogRecord.cntS (l.take j) : Nat) : Int) ∧ i = .int .i64 (j : Nat) ∧ Ow wr (.s 2 lj.length (lj.flatMap LogRecord.cells)) (.slice A l.length c) fp ∧ LogRecord.mkS (lj.take j) k0 (k0 + LogRecord.cntS (l.take j)) ∧ lj.drop j = l.drop j) ∧ Touch fp w wr) (fun _ i _ => l.length - (intOf i).toNat)
  case atStart => exact ⟨⟨0, l, Nat.zero_le _, rfl, by simp [LogRecord.cntS], rfl, h, by simp [LogRecord.cntS, LogRecord.mkS], rfl⟩, Touch.refl _ _⟩
  case round =>
    obtain ⟨⟨j, lj, hj, hlj, rfl, rfl, hoj, hmj, hdj⟩, ht⟩ := hrel
    have HN := hide (ht.new hn)
    have HT := hide ht
    have HM := hide hmj
    have HL := hide hlj
    have HD := hide hdj
    clear hmj ht hdj
    by_cases hlt : j < l.length
    · have hltj : j < lj.length := by omega
      have hxe : lj[j] = l[j] := by
        have h1 : (lj.drop j)[0]? = (l.drop j)[0]? := by rw [HD.out]
        simpa [List.getElem?_drop, List.getElem?_eq_getElem hlt, List.getElem?_eq_getElem hltj] using h1
      have HS := hide (LogRecord.cntS_snoc l j hlt)
      have hle := LogRecord.cntS_le l (j + 1)
      obtain ⟨g, off, us, fi, rfl, hg, hfi, hgi, hnd, hul, hcs, hov, hput⟩ := hoj.upd LogRecord.cells_len HN.out.nd hltj
      rw [hxe] at hov
      have HCN := hide (l[j].cnt_eq)
      clear hxe
      generalize hxx : l[j] = x at *
      have HXX := hide hxx
      clear hxx
      have hbb : k0 + LogRecord.cntS (l.take j) + (2) ≤ 1099511627776 := by have h1 := HS.out; have h2 := HCN.out; have h3 : LogRecord.cntS l ≥ LogRecord.cntS (l.take (j + 1)) := hle; omega
      obtain ⟨rfl, w0, w1, rfl⟩ := hov.oLogRecord
      have p0 := hcs 0 _ rfl
      have p1 := hcs 1 _ rfl
      simp only [Nat.add_zero] at p0
      have hu := HN.out.uf g hg
      have hgl := HN.out.lt g hg
      have hfl : Lt ([]) wr.heap.size := HN.out.lt.sub hfi
      have q0 := unf_frozen hu (off + j * 2)
      have q1 := unf_frozen hu (off + j * 2 + 1)
      have HP := hide hput
      clear hcs hput hov hlj hoj
      have seg0 : Seg g (off + j * 2) (off + j * 2 + 2) [] wr wr := Seg.refl _ _ _ _ _
      go_wp2_with fail
      refine (markText_any _ ((k0 + LogRecord.cntS (l.take j)) + 1) (by omega) (by omega) _).mono ?_
      rintro e w1_ ⟨rfl, hb1⟩
      have t1 : Touch [] _ w1_ := Touch.below hb1
      have sg1 := (seg0.setCell (o := off + j * 2) (by omega) (by omega) (.int .i64 (((k0 + LogRecord.cntS (l.take j)) : Nat) : Int)))
      have hgl1 := Nat.lt_of_lt_of_le hgl sg1.size
      have p1_0 : w1_.cell? ⟨g, off + j * 2, none⟩ = some (.int .i64 (((k0 + LogRecord.cntS (l.take j)) : Nat) : Int)) := (World.cell?_of_block (a := ⟨g, off + j * 2, none⟩) (t1.block g hgl1 (by simp))).trans (by go_simp)
      have p1_1 : w1_.cell? ⟨g, off + j * 2 + 1, none⟩ = some (.string x.data) := (World.cell?_of_block (a := ⟨g, off + j * 2 + 1, none⟩) (t1.block g hgl1 (by simp))).trans (by go_simp)
      have hu1 := t1.unf g (sg1.unf g hu)
      have q1_0 := unf_frozen hu1 (off + j * 2)
      have q1_1 := unf_frozen hu1 (off + j * 2 + 1)
      have seg1 : Seg g (off + j * 2) (off + j * 2 + 2) ([]) wr w1_ := (Seg.mono sg1 (by intro b hb; first | (cases hb; done) | exact hb | (simp only [List.nil_append, List.append_assoc, List.mem_append, List.mem_cons, List.not_mem_nil, or_false, false_or] at hb ⊢; simp [hb]))).touch t1 (by intro b hb; first | (cases hb; done) | exact hb | (simp only [List.nil_append, List.append_assoc, List.mem_append, List.mem_cons, List.not_mem_nil, or_false, false_or] at hb ⊢; simp [hb])) (by simp) hgl1
      go_wp2
      go_roundw
      case rel =>
        have hseg := Seg.mono (fj := []) (seg1.setCell (o := off + j * 2 + 1) (by omega) (by omega) (.string (mtext ((k0 + LogRecord.cntS (l.take j)) + 1)))) (by intro b hb; first | (cases hb; done) | exact hb | (simp only [List.nil_append, List.append_assoc, List.mem_append, List.mem_cons, List.not_mem_nil, or_false, false_or] at hb ⊢; simp [hb]))
        have hnew := HP.out _ (LogRecord.mk ((((k0 + LogRecord.cntS (l.take j)) : Nat) : Int)) (mtext ((k0 + LogRecord.cntS (l.take j)) + 1))) [.int .i64 (((k0 + LogRecord.cntS (l.take j)) : Nat) : Int), .string (mtext ((k0 + LogRecord.cntS (l.take j)) + 1))] (by
          have h := OwC.mLogRecord (w := (w1_.setCell ⟨g, off + j * 2 + 1, none⟩ (.string (mtext ((k0 + LogRecord.cntS (l.take j)) + 1))))) (x := (LogRecord.mk ((((k0 + LogRecord.cntS (l.take j)) : Nat) : Int)) (mtext ((k0 + LogRecord.cntS (l.take j)) + 1)))) (by show (Lit.int .i64 (((k0 + LogRecord.cntS (l.take j)) : Nat) : Int)).wf = true; exact WalkArith.wf_i64 (by have := HCN.out; have := HS.out; omega)) (mtext_size ((k0 + LogRecord.cntS (l.take j)) + 1) (by have := HCN.out; have := HS.out; omega))
          first | exact h | simpa using h) (fun i u hi => by
          match i, hi with
          | 0, hi => simp at hi; subst hi; go_simp
          | 1, hi => simp at hi; subst hi; go_simp) hseg HN.out.lt
        refine ⟨⟨j + 1, lj.set j (LogRecord.mk ((((k0 + LogRecord.cntS (l.take j)) : Nat) : Int)) (mtext ((k0 + LogRecord.cntS (l.take j)) + 1))), by omega, by simpa using HL.out, by rw [HS.out, HCN.out]; go_num, by go_num, by rw [List.length_set]; exact hnew, ?_, ?_⟩, HT.out.trans (hseg.to_touch hg hfi)⟩
        · rw [take_set_succ lj j _ (by have := HL.out; omega), HS.out]
          refine LogRecord.mkS_snoc _ _ _ _ _ HM.out ((LogRecord.mk_iff _ _ _).2 ?_)
          exact ⟨rfl, rfl, by rw [HCN.out]; simp only [Nat.add_assoc]; try omega⟩
        · rw [drop_set_succ]
          have h := congrArg (List.drop 1) HD.out
          simpa [List.drop_drop, Nat.add_comm] using h
      case measure => simp [intOf]; omega
    · obtain rfl : j = l.length := by omega
      have HO := hide hoj
      clear hoj hlj
      go_wp2
      go_ret
      have e1 : lj.take l.length = lj := List.take_of_length_le (by have := HL.out; omega)
      have e2 : l.take l.length = l := List.take_length
      have hmm := HM.out
      try rw [e1] at hmm
      try rw [e2] at hmm
      exact ⟨lj, (by first | exact rfl | (rw [e2]; exact rfl)), HL.out, HO.out, hmm, HT.out⟩
theorem markLogRecordS_any (l : List LogRecord) : MarkLogRecordS l := markLogRecordS_of l
def HeldLogRecordS (l : List LogRecord) : Prop := ∀ (A : Option Addr) (n c : Nat) (fp : List Nat) (z : Int) (a b : Nat) (w : World), z = a → Ow w (.s 2 l.length (l.flatMap LogRecord.cells)) (.slice A n c) fp → Lt fp w.heap.size → LogRecord.mkS l a b → b ≤ 1099511627776 →
  Calls Tryz.prog 52 #[.slice A n c, .int .i64 z] w fun e w' => e = .returned (.int .i64 (b : Nat)) ∧ Below w.heap.size w w'
set_option maxRecDepth 100000 in
set_option maxHeartbeats 1000000 in
theorem heldLogRecordS_of (l : List LogRecord) : HeldLogRecordS l := by
  intro A n c fp z a b w hz h hf hmk hbb
  subst hz
  obtain ⟨rfl, hc, hm⟩ := h.nlen
  unfold maxLen at hm
  have HMK := hide hmk
  have hab := LogRecord.mkS_le _ _ _ hmk
  clear hmk
  go_enter Tryz.func52, Tryz.ntmps52
  go_wp2
  go_loopw [1, 5] (fun u i wr => (∃ (j d : Nat), j ≤ l.length ∧ u = .int .i64 (d : Nat) ∧ i = .int .i64 (j : Nat) ∧ LogRecord.mkS (l.drop j) d b) ∧ Below w.heap.size w wr) (fun _ i _ => l.length - (intOf i).toNat)
  case atStart => exact ⟨⟨0, a, Nat.zero_le _, rfl, rfl, HMK.out⟩, Below.refl _ _⟩
  case round =>
    obtain ⟨⟨j, d, hj, rfl, rfl, hmj⟩, hbel⟩ := hrel
    have HB := hide hbel
    have HJ := hide hmj
    have hdb := LogRecord.mkS_le _ _ _ hmj
    clear hmj
    by_cases hlt : j < l.length
    · obtain ⟨g, off, us, fi, rfl, hg, hfi, hul, hcs, ho⟩ := (h.below HB.out hf).elem LogRecord.cells_len hlt
      obtain ⟨d2, hmx, hmr⟩ := LogRecord.mkS_drop l b j hlt d HJ.out
      have HR := hide hmr
      have hd2 := LogRecord.mkS_le _ _ _ hmr
      clear hmr
      have hgl : g < wr.heap.size := (hf.up HB.out) g hg
      have hfl := (hf.up HB.out).sub hfi
      generalize l[j] = x at *
      obtain ⟨rfl, w0, w1, rfl⟩ := ho.oLogRecord
      obtain ⟨m0, m1, hd2e⟩ := (x.mk_iff _ _).1 hmx
      have HD := hide hd2e
      clear hd2e hmx
      have p0 := hcs 0 _ rfl
      have p1 := hcs 1 _ rfl
      simp only [Nat.add_zero] at p0
      rw [m0] at p0
      rw [m1] at p1
      have hbd : d2 ≤ 1099511627776 := by omega
      have z0 : d + 1 ≤ d2 := by have := HD.out; omega
      have z1 : d + 2 ≤ d2 := by have := HD.out; omega
      have hend : d + 2 ≤ d2 := by have := HD.out; omega
      clear m0 m1 hcs ho
      clear hfl
      have B0 := hide (Below.refl wr.heap.size wr)
      go_wp2
      go_region_held3 (fun u => u.cell? ⟨g, off + j * 2 + 1, none⟩ = some (.string (mtext (d + 1)))) (first | go_keep | exact (hb1.cell (p := ⟨g, off + j * 2 + 1, none⟩) (by first | exact hgl | exact hgl0)).trans (by go_simp))
        (first | (go_at_call 64; refine (markText_any _ (d + 1) (by omega) (by omega) _).mono ?_; rintro e w1_ ⟨rfl, hb1⟩))
      have hb1 : Below wr.heap.size wr w1_ := ⟨hb1.os, hb1.tape, hb1.output, hb1.size, hb1.block⟩
      have B1 := hide (B0.out.trans (hb1.mono B0.out.size))
      have hgl1 := Nat.lt_of_lt_of_le hgl B1.out.size
      go_wp2
      go_roundw
      case rel => exact ⟨⟨j + 1, d2, by omega, by (rw [HD.out]; try go_num), by go_num, HR.out⟩, HB.out.trans (B1.out.mono HB.out.size)⟩
      case measure => simp [intOf]; omega
    · obtain rfl : j = l.length := by omega
      have e := HJ.out
      rw [List.drop_length] at e
      simp only [LogRecord.mkS] at e
      subst e
      clear HJ
      go_wp2
      go_ret
      exact ⟨rfl, HB.out⟩
theorem heldLogRecordS_any (l : List LogRecord) : HeldLogRecordS l := heldLogRecordS_of l
end Go.Proofs.YtddjgbhkfdpffaaGreatDoor
set_option linter.unusedVariables false
set_option linter.unusedSimpArgs false
namespace Go.Proofs.YtddjgbhkfdpffaaGreatDoor
open Go.ChangeShapes Go.WideShapes Go.ChangeAt Go.RowKit
theorem markPlan_any (x : LogPlan) (A : Option Addr) (c : Nat) (fp : List Nat) (lo : Nat) (z : Int) (k0 : Nat) (w : World) (hz : z = k0) (ho : Ow w (.s 4 x.parts.length (x.parts.flatMap LogPart.cells)) (.slice A x.parts.length c) fp) (w1 : (Lit.int .i64 x.open_).wf = true) (w2 : (Lit.int .i64 x.first).wf = true) (hn : New w fp lo) (hb : k0 + LogPart.cntS x.parts ≤ 1099511627776) :
    Calls Tryz.prog 49 #[.agg #[.slice A x.parts.length c, .int .i64 x.open_, .int .i64 x.first], .int .i64 z] w fun e w' => ∃ y : List LogPart, e = .returned (.int .i64 ((k0 + LogPart.cntS x.parts : Nat) : Int)) ∧ y.length = x.parts.length ∧ Ow w' (.s 4 y.length (y.flatMap LogPart.cells)) (.slice A x.parts.length c) fp ∧ LogPart.mkS y k0 (k0 + LogPart.cntS x.parts) ∧ Touch fp w w' := by
  refine (markLogPlan_any x _ fp lo z k0 w hz (OwC.mLogPlan ho w1 w2) hn hb).mono ?_
  rintro e w' ⟨x', rfl, ho', hm, ht⟩
  obtain ⟨A', c', f', e1, o', -, -, rfl⟩ := ho'.oLogPlan
  simp only [List.cons.injEq, Value.slice.injEq, Value.int.injEq, true_and, and_true] at e1
  obtain ⟨⟨rfl, hl, rfl⟩, -, -⟩ := e1
  refine ⟨x'.parts, rfl, hl.symm, ?_, hm, ht⟩
  rw [hl]
  exact o'
theorem heldPlan_any (x : LogPlan) (A : Option Addr) (c : Nat) (fp : List Nat) (z : Int) (a b : Nat) (w : World) (hz : z = a) (ho : Ow w (.s 4 x.parts.length (x.parts.flatMap LogPart.cells)) (.slice A x.parts.length c) fp) (w1 : (Lit.int .i64 x.open_).wf = true) (w2 : (Lit.int .i64 x.first).wf = true) (hf : Lt fp w.heap.size) (hm : LogPart.mkS x.parts a b) (hb : b ≤ 1099511627776) :
    Calls Tryz.prog 51 #[.agg #[.slice A x.parts.length c, .int .i64 x.open_, .int .i64 x.first], .int .i64 z] w fun e w' => e = .returned (.int .i64 (b : Nat)) ∧ Below w.heap.size w w' :=
  heldLogPlan_any x _ fp z a b w hz (OwC.mLogPlan ho w1 w2) hf hm hb
def LogState.mkTop (x : LogState) (a b : Nat) : Prop := ∃ e1, LogPart.mkS x.plan.parts a e1 ∧ LogRecord.mkS x.records e1 b
def LogState.cntTop (x : LogState) : Nat := LogPart.cntS x.plan.parts + LogRecord.cntS x.records
theorem LogState.cntTop_eq (x : LogState) : x.cntTop = LogPart.cntS x.plan.parts + LogRecord.cntS x.records := rfl
set_option maxRecDepth 100000 in
set_option maxHeartbeats 1000000 in
theorem markLogState_any (x : LogState) (us : List Value) (fp : List Nat) (lo : Nat) (z : Int) (k0 : Nat) (w : World) (hz : z = k0) (ho : OwC w x.cells us fp) (hn : New w fp lo) (hb : k0 + x.cntTop ≤ 1099511627776) :
    Calls Tryz.prog 13 #[.agg us.toArray, .int .i64 z] w fun e w' => ∃ (x' : LogState), e = .returned (.int .i64 ((k0 + x.cntTop : Nat) : Int)) ∧ OwC w' x'.cells us fp ∧ x'.mkTop k0 (k0 + x.cntTop) ∧ Touch fp w w' := by
  subst hz
  have hc := x.cntTop_eq
  obtain ⟨A1, c1, A2, c2, f1, f2, rfl, w0, w1, o1, w3, w4, w5, w7, o2, rfl⟩ := ho.oLogState
  have hw0 : Below w.heap.size w (w.alloc (.cells #[.int .i64 x.code, .int .i64 x.num, .slice A1 x.plan.parts.length c1, .int .i64 x.plan.open_, .int .i64 x.plan.first, .int .i64 x.size, .bool x.torn, .int .i64 x.next, .slice A2 x.records.length c2] 33)) := (Below.refl _ _).alloc (Nat.le_refl _) _
  have R0 : Row (w.alloc (.cells #[.int .i64 x.code, .int .i64 x.num, .slice A1 x.plan.parts.length c1, .int .i64 x.plan.open_, .int .i64 x.plan.first, .int .i64 x.size, .bool x.torn, .int .i64 x.next, .slice A2 x.records.length c2] 33)) w.heap.size 33 [.int .i64 x.code, .int .i64 x.num, .slice A1 x.plan.parts.length c1, .int .i64 x.plan.open_, .int .i64 x.plan.first, .int .i64 x.size, .bool x.torn, .int .i64 x.next, .slice A2 x.records.length c2] := Row.new w _ _
  have n1 := hn.left
  have r1 := hn.right
  have dj1 := (List.nodup_append.1 hn.nd).2.2
  have n2 := r1
  have O1 := hide (o1.below hw0 n1.lt)
  have N1 := hide (n1.alloc (.cells #[.int .i64 x.code, .int .i64 x.num, .slice A1 x.plan.parts.length c1, .int .i64 x.plan.open_, .int .i64 x.plan.first, .int .i64 x.size, .bool x.torn, .int .i64 x.next, .slice A2 x.records.length c2] 33))
  have nb1 : w.heap.size ∉ f1 := fun h => Nat.lt_irrefl _ (n1.lt _ h)
  have O2 := hide (o2.below hw0 n2.lt)
  have N2 := hide (n2.alloc (.cells #[.int .i64 x.code, .int .i64 x.num, .slice A1 x.plan.parts.length c1, .int .i64 x.plan.open_, .int .i64 x.plan.first, .int .i64 x.size, .bool x.torn, .int .i64 x.next, .slice A2 x.records.length c2] 33))
  have nb2 : w.heap.size ∉ f2 := fun h => Nat.lt_irrefl _ (n2.lt _ h)
  have dd1_2 : ∀ g ∈ f2, g ∉ f1 := fun g hg h => dj1 _ h _ hg rfl
  clear ho o1 o2 hn
  have T0 := hide (Touch.below (fp := f1 ++ (f2)) hw0)
  have q2 := R0.cell 2
  have q3 := R0.cell 3
  have q4 := R0.cell 4
  go_enter Tryz.func13, Tryz.ntmps13
  go_wp2_with fail
  refine (markPlan_any x.plan _ _ f1 lo _ (k0) _ (by omega) O1.out w3 w4 N1.out (by omega)).mono ?_
  rintro e w1_ ⟨y1, rfl, yl1, yo1, ym1, t1⟩
  have T1 := hide (T0.out.trans (t1.mono (by intro g hg; simp [hg])))
  have YO1 := hide yo1
  have YM1 := hide ym1
  have YL1 := hide yl1
  clear yo1 ym1 yl1
  have R1 : Row w1_ w.heap.size 33 [.int .i64 x.code, .int .i64 x.num, .slice A1 x.plan.parts.length c1, .int .i64 x.plan.open_, .int .i64 x.plan.first, .int .i64 x.size, .bool x.torn, .int .i64 x.next, .slice A2 x.records.length c2] := (t1.block _ R0.lt nb1).trans R0
  have O2 := hide (O2.out.touch t1 N2.out.lt dd1_2)
  have N2 := hide (t1.new N2.out)
  have M1 := hide (t1.new N1.out)
  clear t1
  have lt1 := R1.lt
  have cc1 := R1.cell 8
  go_wp2_with fail
  refine (markLogRecordS_any x.records _ _ _ f2 lo _ ((k0) + LogPart.cntS x.plan.parts) _ (by omega) O2.out N2.out (by omega)).mono ?_
  rintro e w2_ ⟨y2, rfl, yl2, yo2, ym2, t2⟩
  have T2 := hide (T1.out.trans (t2.mono (by intro g hg; simp [hg])))
  have YO2 := hide yo2
  have YM2 := hide ym2
  have YL2 := hide yl2
  clear yo2 ym2 yl2
  have R2 : Row w2_ w.heap.size 33 [.int .i64 x.code, .int .i64 x.num, .slice A1 x.plan.parts.length c1, .int .i64 x.plan.open_, .int .i64 x.plan.first, .int .i64 x.size, .bool x.torn, .int .i64 x.next, .slice A2 x.records.length c2] := (t2.block _ R1.lt nb2).trans R1
  have YO1 := hide (YO1.out.touch t2 M1.out.lt (fun g hg h => dd1_2 g h hg))
  have M1 := hide (t2.new M1.out)
  have M2 := hide (t2.new N2.out)
  clear t2
  have lt2 := R2.lt
  go_wp2
  go_ret
  refine ⟨(LogState.mk x.code x.num (LogPlan.mk y1 x.plan.open_ x.plan.first) x.size x.torn x.next y2), ret_int (by omega), OwC.mLogState w0 w1 YO1.out w3 w4 w5 w7 YO2.out, ?_, ?_⟩
  · refine ⟨_, YM1.out, ?_⟩
    have h := YM2.out
    rw [hc]
    (try simp only [Nat.add_assoc] at h)
    (try simp only [Nat.add_assoc])
    exact h
  · exact T2.out
set_option maxRecDepth 100000 in
set_option maxHeartbeats 1000000 in
theorem heldLogState_any (x : LogState) (us : List Value) (fp : List Nat) (z : Int) (a b : Nat) (w : World) (hz : z = a) (ho : OwC w x.cells us fp) (hf : Lt fp w.heap.size) (hmk : x.mkTop a b) (hb : b ≤ 1099511627776) :
    Calls Tryz.prog 14 #[.agg us.toArray, .int .i64 z] w fun e w' => e = .returned (.int .i64 (b : Nat)) ∧ Below w.heap.size w w' := by
  subst hz
  obtain ⟨A1, c1, A2, c2, f1, f2, rfl, w0, w1, o1, w3, w4, w5, w7, o2, rfl⟩ := ho.oLogState
  obtain ⟨e1, m1, m2⟩ := hmk
  have hw0 : Below w.heap.size w (w.alloc (.cells #[.int .i64 x.code, .int .i64 x.num, .slice A1 x.plan.parts.length c1, .int .i64 x.plan.open_, .int .i64 x.plan.first, .int .i64 x.size, .bool x.torn, .int .i64 x.next, .slice A2 x.records.length c2] 33)) := (Below.refl _ _).alloc (Nat.le_refl _) _
  have R0 : Row (w.alloc (.cells #[.int .i64 x.code, .int .i64 x.num, .slice A1 x.plan.parts.length c1, .int .i64 x.plan.open_, .int .i64 x.plan.first, .int .i64 x.size, .bool x.torn, .int .i64 x.next, .slice A2 x.records.length c2] 33)) w.heap.size 33 [.int .i64 x.code, .int .i64 x.num, .slice A1 x.plan.parts.length c1, .int .i64 x.plan.open_, .int .i64 x.plan.first, .int .i64 x.size, .bool x.torn, .int .i64 x.next, .slice A2 x.records.length c2] := Row.new w _ _
  have fl1 := hf.left
  have fl2 := (hf).right
  have le2 := LogRecord.mkS_le _ _ _ m2
  have le1 := LogPart.mkS_le _ _ _ m1
  have O1 := hide o1
  have HM1 := hide m1
  have O2 := hide o2
  have HM2 := hide m2
  have B0 := hide hw0
  clear ho hf hw0 o1 m1 o2 m2
  have q2 := R0.cell 2
  have q3 := R0.cell 3
  have q4 := R0.cell 4
  go_enter Tryz.func14, Tryz.ntmps14
  go_wp2_with fail
  refine (heldPlan_any x.plan _ _ f1 _ a e1 _ (by omega) (O1.out.below B0.out fl1) w3 w4 (fl1.up B0.out) HM1.out (by omega)).mono ?_
  rintro e w1_ ⟨rfl, hb1⟩
  have B1 := hide (B0.out.trans (hb1.mono B0.out.size))
  have R1 := R0.below hb1 R0.lt
  have lt1 := R1.lt
  have cc1 := R1.cell 8
  clear hb1
  go_wp2_with fail
  refine (heldLogRecordS_any x.records _ _ _ f2 _ e1 b _ (by omega) (O2.out.below B1.out fl2) (fl2.up B1.out) HM2.out (by omega)).mono ?_
  rintro e w2_ ⟨rfl, hb2⟩
  have B2 := hide (B1.out.trans (hb2.mono B1.out.size))
  have R2 := R1.below hb2 R1.lt
  have lt2 := R2.lt
  clear hb2
  go_wp2
  go_ret
  exact ⟨rfl, B2.out⟩
end Go.Proofs.YtddjgbhkfdpffaaGreatDoor
