/-
  DiskFile: what the laws' marks write, and that they are found again. DiskMove: what the laws' marks write, and that they are found again. The laws' marks at a Disk by value: only its slices are marked.
-/
import Derived.Test.YtddjgbhkfdpffaaGreatDoorWDDiskWrite
import Derived.Test.YtddjgbhkfdpffaaGreatDoorWHLogState
import Derived.Test.YtddjgbhkfdpffaaGreatDoorWMark
set_option linter.unusedVariables false
set_option linter.unusedSimpArgs false
namespace Go.Proofs.YtddjgbhkfdpffaaGreatDoor
open Go.ChangeShapes Go.WideShapes Go.ChangeAt Go.RowKit

def DiskFile.mk_ (x : DiskFile) (a b : Nat) : Prop := x.name = mtext a ∧ x.data = mtext (a + 1) ∧ x.kept = (((a + 2) : Nat) : Int) ∧ b = a + 3
def DiskFile.mkS : List DiskFile → Nat → Nat → Prop
  | [], a, b => a = b
  | x :: r, a, b => ∃ c, x.mk_ a c ∧ DiskFile.mkS r c b
def DiskFile.cnt (x : DiskFile) : Nat := 3
def DiskFile.cntS : List DiskFile → Nat
  | [] => 0
  | x :: r => x.cnt + DiskFile.cntS r
theorem DiskFile.mk_iff (x : DiskFile) (a b : Nat) : x.mk_ a b ↔ x.name = mtext a ∧ x.data = mtext (a + 1) ∧ x.kept = (((a + 2) : Nat) : Int) ∧ b = a + 3 := Iff.rfl
theorem DiskFile.cnt_eq (x : DiskFile) : x.cnt = 3 := rfl
theorem DiskFile.mkS_snoc : ∀ (l : List DiskFile) (x : DiskFile) (a c b : Nat), DiskFile.mkS l a c → x.mk_ c b → DiskFile.mkS (l ++ [x]) a b
  | [], x, a, c, b, h, hx => by
    simp only [DiskFile.mkS] at h
    subst h
    exact ⟨b, hx, rfl⟩
  | y :: r, x, a, c, b, h, hx => by
    obtain ⟨d, h1, h2⟩ := h
    exact ⟨d, h1, DiskFile.mkS_snoc r x d c b h2 hx⟩
theorem DiskFile.mkS_drop : ∀ (l : List DiskFile) (b : Nat) (k : Nat) (h : k < l.length) (c : Nat), DiskFile.mkS (l.drop k) c b → ∃ d, l[k].mk_ c d ∧ DiskFile.mkS (l.drop (k + 1)) d b
  | x :: r, b, 0, _, c, h => by
    obtain ⟨d, h1, h2⟩ := h
    exact ⟨d, h1, h2⟩
  | x :: r, b, k + 1, hk, c, h => DiskFile.mkS_drop r b k (by simpa using hk) c h
theorem DiskFile.cntS_append (a b : List DiskFile) : DiskFile.cntS (a ++ b) = DiskFile.cntS a + DiskFile.cntS b := by
  induction a with
  | nil => simp [DiskFile.cntS]
  | cons x a ih => simp [DiskFile.cntS, ih]; omega
theorem DiskFile.cntS_snoc (l : List DiskFile) (k : Nat) (h : k < l.length) : DiskFile.cntS (l.take (k + 1)) = DiskFile.cntS (l.take k) + l[k].cnt := by
  rw [List.take_succ_eq_append_getElem h, DiskFile.cntS_append]
  simp [DiskFile.cntS]
theorem DiskFile.cntS_le (l : List DiskFile) (k : Nat) : DiskFile.cntS (l.take k) ≤ DiskFile.cntS l := by
  conv => rhs; rw [← List.take_append_drop k l, DiskFile.cntS_append]
  omega
theorem DiskFile.mk_le (x : DiskFile) (a b : Nat) (h : x.mk_ a b) : a ≤ b := by
  obtain ⟨h0, h1, h2, hb⟩ := (x.mk_iff a b).1 h
  skip
  omega
theorem DiskFile.mkS_le : ∀ (l : List DiskFile) (a b : Nat), DiskFile.mkS l a b → a ≤ b
  | [], a, b, h => by simp only [DiskFile.mkS] at h; omega
  | x :: r, a, b, h => by
    obtain ⟨c, h1, h2⟩ := h
    exact Nat.le_trans (x.mk_le _ _ h1) (DiskFile.mkS_le r _ _ h2)

def MarkDiskFileS (l : List DiskFile) : Prop := ∀ (A : Option Addr) (n c : Nat) (fp : List Nat) (lo : Nat) (z : Int) (k0 : Nat) (w : World), z = k0 → Ow w (.s 3 l.length (l.flatMap DiskFile.cells)) (.slice A n c) fp → New w fp lo → k0 + DiskFile.cntS l ≤ 1099511627776 →
  Calls Tryz.prog 46 #[.slice A n c, .int .i64 z] w fun e w' => ∃ (l' : List DiskFile), e = .returned (.int .i64 ((k0 + DiskFile.cntS l : Nat) : Int)) ∧ l'.length = l.length ∧ Ow w' (.s 3 l'.length (l'.flatMap DiskFile.cells)) (.slice A n c) fp ∧ DiskFile.mkS l' k0 (k0 + DiskFile.cntS l) ∧ Touch fp w w'
set_option maxRecDepth 100000 in
set_option maxHeartbeats 1000000 in
theorem markDiskFileS_of (l : List DiskFile) : MarkDiskFileS l := by
  intro A n c fp lo z k0 w hz h hn hb
  subst hz
  obtain ⟨rfl, hc, hm⟩ := h.nlen
  unfold maxLen at hm
  go_enter Tryz.func46, Tryz.ntmps46
  go_wp2
  go_loopw [1, 5] (fun a i wr => (∃ (j : Nat) (lj : List DiskFile), j ≤ l.length ∧ lj.length = l.length ∧ a = .int .i64 ((k0 + DiskFile.cntS (l.take j) : Nat) : Int) ∧ i = .int .i64 (j : Nat) ∧ Ow wr (.s 3 lj.length (lj.flatMap DiskFile.cells)) (.slice A l.length c) fp ∧ DiskFile.mkS (lj.take j) k0 (k0 + DiskFile.cntS (l.take j)) ∧ lj.drop j = l.drop j) ∧ Touch fp w wr) (fun _ i _ => l.length - (intOf i).toNat)
  case atStart => exact ⟨⟨0, l, Nat.zero_le _, rfl, by simp [DiskFile.cntS], rfl, h, by simp [DiskFile.cntS, DiskFile.mkS], rfl⟩, Touch.refl _ _⟩
  case round =>
    obtain ⟨⟨j, lj, hj, hlj, rfl, rfl, hoj, hmj, hdj⟩, ht⟩ := hrel
    have HN := hide (ht.new hn)
    have HT := hide ht
    have HM := hide hmj
    have HL := hide hlj
    have HD := hide hdj
    clear hmj ht hdj
    by_cases hlt : j < l.length
    · have hltj : j < lj.length := by omega
      have hxe : lj[j] = l[j] := by
        have h1 : (lj.drop j)[0]? = (l.drop j)[0]? := by rw [HD.out]
        simpa [List.getElem?_drop, List.getElem?_eq_getElem hlt, List.getElem?_eq_getElem hltj] using h1
      have HS := hide (DiskFile.cntS_snoc l j hlt)
      have hle := DiskFile.cntS_le l (j + 1)
      obtain ⟨g, off, us, fi, rfl, hg, hfi, hgi, hnd, hul, hcs, hov, hput⟩ := hoj.upd DiskFile.cells_len HN.out.nd hltj
      rw [hxe] at hov
      have HCN := hide (l[j].cnt_eq)
      clear hxe
      generalize hxx : l[j] = x at *
      have HXX := hide hxx
      clear hxx
      have hbb : k0 + DiskFile.cntS (l.take j) + (3) ≤ 1099511627776 := by have h1 := HS.out; have h2 := HCN.out; have h3 : DiskFile.cntS l ≥ DiskFile.cntS (l.take (j + 1)) := hle; omega
      obtain ⟨rfl, w0, w1, w2, rfl⟩ := hov.oDiskFile
      have p0 := hcs 0 _ rfl
      have p1 := hcs 1 _ rfl
      have p2 := hcs 2 _ rfl
      simp only [Nat.add_zero] at p0
      have hu := HN.out.uf g hg
      have hgl := HN.out.lt g hg
      have hfl : Lt ([]) wr.heap.size := HN.out.lt.sub hfi
      have q0 := unf_frozen hu (off + j * 3)
      have q1 := unf_frozen hu (off + j * 3 + 1)
      have q2 := unf_frozen hu (off + j * 3 + 2)
      have HP := hide hput
      clear hcs hput hov hlj hoj
      have seg0 : Seg g (off + j * 3) (off + j * 3 + 3) [] wr wr := Seg.refl _ _ _ _ _
      go_wp2_with fail
      refine (markText_any _ (k0 + DiskFile.cntS (l.take j)) (by omega) (by omega) _).mono ?_
      rintro e w1_ ⟨rfl, hb1⟩
      have t1 : Touch [] _ w1_ := Touch.below hb1
      have sg1 := seg0
      have hgl1 := Nat.lt_of_lt_of_le hgl sg1.size
      have p1_0 : w1_.cell? ⟨g, off + j * 3, none⟩ = some (.string x.name) := (World.cell?_of_block (a := ⟨g, off + j * 3, none⟩) (t1.block g hgl1 (by simp))).trans (by go_simp)
      have p1_1 : w1_.cell? ⟨g, off + j * 3 + 1, none⟩ = some (.string x.data) := (World.cell?_of_block (a := ⟨g, off + j * 3 + 1, none⟩) (t1.block g hgl1 (by simp))).trans (by go_simp)
      have p1_2 : w1_.cell? ⟨g, off + j * 3 + 2, none⟩ = some (.int .i64 x.kept) := (World.cell?_of_block (a := ⟨g, off + j * 3 + 2, none⟩) (t1.block g hgl1 (by simp))).trans (by go_simp)
      have hu1 := t1.unf g (sg1.unf g hu)
      have q1_0 := unf_frozen hu1 (off + j * 3)
      have q1_1 := unf_frozen hu1 (off + j * 3 + 1)
      have q1_2 := unf_frozen hu1 (off + j * 3 + 2)
      have seg1 : Seg g (off + j * 3) (off + j * 3 + 3) ([]) wr w1_ := (Seg.mono sg1 (by intro b hb; first | (cases hb; done) | exact hb | (simp only [List.nil_append, List.append_assoc, List.mem_append, List.mem_cons, List.not_mem_nil, or_false, false_or] at hb ⊢; simp [hb]))).touch t1 (by intro b hb; first | (cases hb; done) | exact hb | (simp only [List.nil_append, List.append_assoc, List.mem_append, List.mem_cons, List.not_mem_nil, or_false, false_or] at hb ⊢; simp [hb])) (by simp) hgl1
      go_wp2_with fail
      refine (markText_any _ ((k0 + DiskFile.cntS (l.take j)) + 1) (by omega) (by omega) _).mono ?_
      rintro e w2_ ⟨rfl, hb2⟩
      have t2 : Touch [] _ w2_ := Touch.below hb2
      have sg2 := (seg1.setCell (o := off + j * 3) (by omega) (by omega) (.string (mtext (k0 + DiskFile.cntS (l.take j)))))
      have hgl2 := Nat.lt_of_lt_of_le hgl sg2.size
      have p2_0 : w2_.cell? ⟨g, off + j * 3, none⟩ = some (.string (mtext (k0 + DiskFile.cntS (l.take j)))) := (World.cell?_of_block (a := ⟨g, off + j * 3, none⟩) (t2.block g hgl2 (by simp))).trans (by go_simp)
      have p2_1 : w2_.cell? ⟨g, off + j * 3 + 1, none⟩ = some (.string x.data) := (World.cell?_of_block (a := ⟨g, off + j * 3 + 1, none⟩) (t2.block g hgl2 (by simp))).trans (by go_simp)
      have p2_2 : w2_.cell? ⟨g, off + j * 3 + 2, none⟩ = some (.int .i64 x.kept) := (World.cell?_of_block (a := ⟨g, off + j * 3 + 2, none⟩) (t2.block g hgl2 (by simp))).trans (by go_simp)
      have hu2 := t2.unf g (sg2.unf g hu)
      have q2_0 := unf_frozen hu2 (off + j * 3)
      have q2_1 := unf_frozen hu2 (off + j * 3 + 1)
      have q2_2 := unf_frozen hu2 (off + j * 3 + 2)
      have seg2 : Seg g (off + j * 3) (off + j * 3 + 3) ([]) wr w2_ := (Seg.mono sg2 (by intro b hb; first | (cases hb; done) | exact hb | (simp only [List.nil_append, List.append_assoc, List.mem_append, List.mem_cons, List.not_mem_nil, or_false, false_or] at hb ⊢; simp [hb]))).touch t2 (by intro b hb; first | (cases hb; done) | exact hb | (simp only [List.nil_append, List.append_assoc, List.mem_append, List.mem_cons, List.not_mem_nil, or_false, false_or] at hb ⊢; simp [hb])) (by simp) hgl2
      go_wp2
      go_roundw
      case rel =>
        have hseg := Seg.mono (fj := []) ((seg2.setCell (o := off + j * 3 + 1) (by omega) (by omega) (.string (mtext ((k0 + DiskFile.cntS (l.take j)) + 1)))).setCell (o := off + j * 3 + 2) (by omega) (by omega) (.int .i64 ((((k0 + DiskFile.cntS (l.take j)) + 2) : Nat) : Int))) (by intro b hb; first | (cases hb; done) | exact hb | (simp only [List.nil_append, List.append_assoc, List.mem_append, List.mem_cons, List.not_mem_nil, or_false, false_or] at hb ⊢; simp [hb]))
        have hnew := HP.out _ (DiskFile.mk (mtext (k0 + DiskFile.cntS (l.take j))) (mtext ((k0 + DiskFile.cntS (l.take j)) + 1)) (((((k0 + DiskFile.cntS (l.take j)) + 2) : Nat) : Int))) [.string (mtext (k0 + DiskFile.cntS (l.take j))), .string (mtext ((k0 + DiskFile.cntS (l.take j)) + 1)), .int .i64 ((((k0 + DiskFile.cntS (l.take j)) + 2) : Nat) : Int)] (by
          have h := OwC.mDiskFile (w := ((w2_.setCell ⟨g, off + j * 3 + 1, none⟩ (.string (mtext ((k0 + DiskFile.cntS (l.take j)) + 1)))).setCell ⟨g, off + j * 3 + 2, none⟩ (.int .i64 ((((k0 + DiskFile.cntS (l.take j)) + 2) : Nat) : Int)))) (x := (DiskFile.mk (mtext (k0 + DiskFile.cntS (l.take j))) (mtext ((k0 + DiskFile.cntS (l.take j)) + 1)) (((((k0 + DiskFile.cntS (l.take j)) + 2) : Nat) : Int)))) (mtext_size (k0 + DiskFile.cntS (l.take j)) (by have := HCN.out; have := HS.out; omega)) (mtext_size ((k0 + DiskFile.cntS (l.take j)) + 1) (by have := HCN.out; have := HS.out; omega)) (by show (Lit.int .i64 ((((k0 + DiskFile.cntS (l.take j)) + 2) : Nat) : Int)).wf = true; exact WalkArith.wf_i64 (by have := HCN.out; have := HS.out; omega))
          first | exact h | simpa using h) (fun i u hi => by
          match i, hi with
          | 0, hi => simp at hi; subst hi; go_simp
          | 1, hi => simp at hi; subst hi; go_simp
          | 2, hi => simp at hi; subst hi; go_simp) hseg HN.out.lt
        refine ⟨⟨j + 1, lj.set j (DiskFile.mk (mtext (k0 + DiskFile.cntS (l.take j))) (mtext ((k0 + DiskFile.cntS (l.take j)) + 1)) (((((k0 + DiskFile.cntS (l.take j)) + 2) : Nat) : Int))), by omega, by simpa using HL.out, by rw [HS.out, HCN.out]; go_num, by go_num, by rw [List.length_set]; exact hnew, ?_, ?_⟩, HT.out.trans (hseg.to_touch hg hfi)⟩
        · rw [take_set_succ lj j _ (by have := HL.out; omega), HS.out]
          refine DiskFile.mkS_snoc _ _ _ _ _ HM.out ((DiskFile.mk_iff _ _ _).2 ?_)
          exact ⟨rfl, rfl, rfl, by rw [HCN.out]; simp only [Nat.add_assoc]; try omega⟩
        · rw [drop_set_succ]
          have h := congrArg (List.drop 1) HD.out
          simpa [List.drop_drop, Nat.add_comm] using h
      case measure => simp [intOf]; omega
    · obtain rfl : j = l.length := by omega
      have HO := hide hoj
      clear hoj hlj
      go_wp2
      go_ret
      have e1 : lj.take l.length = lj := List.take_of_length_le (by have := HL.out; omega)
      have e2 : l.take l.length = l := List.take_length
      have hmm := HM.out
      try rw [e1] at hmm
      try rw [e2] at hmm
      exact ⟨lj, (by first | exact rfl | (rw [e2]; exact rfl)), HL.out, HO.out, hmm, HT.out⟩
theorem markDiskFileS_any (l : List DiskFile) : MarkDiskFileS l := markDiskFileS_of l
end Go.Proofs.YtddjgbhkfdpffaaGreatDoor
set_option linter.unusedVariables false
set_option linter.unusedSimpArgs false
namespace Go.Proofs.YtddjgbhkfdpffaaGreatDoor
open Go.ChangeShapes Go.WideShapes Go.ChangeAt Go.RowKit

def DiskMove.mk_ (x : DiskMove) (a b : Nat) : Prop := x.gone = (((a : Nat) : Int) % 3 == 0) ∧ x.name = mtext (a + 1) ∧ b = a + 2
def DiskMove.mkS : List DiskMove → Nat → Nat → Prop
  | [], a, b => a = b
  | x :: r, a, b => ∃ c, x.mk_ a c ∧ DiskMove.mkS r c b
def DiskMove.cnt (x : DiskMove) : Nat := 2
def DiskMove.cntS : List DiskMove → Nat
  | [] => 0
  | x :: r => x.cnt + DiskMove.cntS r
theorem DiskMove.mk_iff (x : DiskMove) (a b : Nat) : x.mk_ a b ↔ x.gone = (((a : Nat) : Int) % 3 == 0) ∧ x.name = mtext (a + 1) ∧ b = a + 2 := Iff.rfl
theorem DiskMove.cnt_eq (x : DiskMove) : x.cnt = 2 := rfl
theorem DiskMove.mkS_snoc : ∀ (l : List DiskMove) (x : DiskMove) (a c b : Nat), DiskMove.mkS l a c → x.mk_ c b → DiskMove.mkS (l ++ [x]) a b
  | [], x, a, c, b, h, hx => by
    simp only [DiskMove.mkS] at h
    subst h
    exact ⟨b, hx, rfl⟩
  | y :: r, x, a, c, b, h, hx => by
    obtain ⟨d, h1, h2⟩ := h
    exact ⟨d, h1, DiskMove.mkS_snoc r x d c b h2 hx⟩
theorem DiskMove.mkS_drop : ∀ (l : List DiskMove) (b : Nat) (k : Nat) (h : k < l.length) (c : Nat), DiskMove.mkS (l.drop k) c b → ∃ d, l[k].mk_ c d ∧ DiskMove.mkS (l.drop (k + 1)) d b
  | x :: r, b, 0, _, c, h => by
    obtain ⟨d, h1, h2⟩ := h
    exact ⟨d, h1, h2⟩
  | x :: r, b, k + 1, hk, c, h => DiskMove.mkS_drop r b k (by simpa using hk) c h
theorem DiskMove.cntS_append (a b : List DiskMove) : DiskMove.cntS (a ++ b) = DiskMove.cntS a + DiskMove.cntS b := by
  induction a with
  | nil => simp [DiskMove.cntS]
  | cons x a ih => simp [DiskMove.cntS, ih]; omega
theorem DiskMove.cntS_snoc (l : List DiskMove) (k : Nat) (h : k < l.length) : DiskMove.cntS (l.take (k + 1)) = DiskMove.cntS (l.take k) + l[k].cnt := by
  rw [List.take_succ_eq_append_getElem h, DiskMove.cntS_append]
  simp [DiskMove.cntS]
theorem DiskMove.cntS_le (l : List DiskMove) (k : Nat) : DiskMove.cntS (l.take k) ≤ DiskMove.cntS l := by
  conv => rhs; rw [← List.take_append_drop k l, DiskMove.cntS_append]
  omega
theorem DiskMove.mk_le (x : DiskMove) (a b : Nat) (h : x.mk_ a b) : a ≤ b := by
  obtain ⟨h0, h1, hb⟩ := (x.mk_iff a b).1 h
  skip
  omega
theorem DiskMove.mkS_le : ∀ (l : List DiskMove) (a b : Nat), DiskMove.mkS l a b → a ≤ b
  | [], a, b, h => by simp only [DiskMove.mkS] at h; omega
  | x :: r, a, b, h => by
    obtain ⟨c, h1, h2⟩ := h
    exact Nat.le_trans (x.mk_le _ _ h1) (DiskMove.mkS_le r _ _ h2)

def MarkDiskMoveS (l : List DiskMove) : Prop := ∀ (A : Option Addr) (n c : Nat) (fp : List Nat) (lo : Nat) (z : Int) (k0 : Nat) (w : World), z = k0 → Ow w (.s 2 l.length (l.flatMap DiskMove.cells)) (.slice A n c) fp → New w fp lo → k0 + DiskMove.cntS l ≤ 1099511627776 →
  Calls Tryz.prog 48 #[.slice A n c, .int .i64 z] w fun e w' => ∃ (l' : List DiskMove), e = .returned (.int .i64 ((k0 + DiskMove.cntS l : Nat) : Int)) ∧ l'.length = l.length ∧ Ow w' (.s 2 l'.length (l'.flatMap DiskMove.cells)) (.slice A n c) fp ∧ DiskMove.mkS l' k0 (k0 + DiskMove.cntS l) ∧ Touch fp w w'
set_option maxRecDepth 100000 in
set_option maxHeartbeats 1000000 in
theorem markDiskMoveS_of (l : List DiskMove) : MarkDiskMoveS l := by
  intro A n c fp lo z k0 w hz h hn hb
  subst hz
  obtain ⟨rfl, hc, hm⟩ := h.nlen
  unfold maxLen at hm
  go_enter Tryz.func48, Tryz.ntmps48
  go_wp2
  go_loopw [1, 5] (fun a i wr => (∃ (j : Nat) (lj : List DiskMove), j ≤ l.length ∧ lj.length = l.length ∧ a = .int .i64 ((k0 + DiskMove.cntS (l.take j) : Nat) : Int) ∧ i = .int .i64 (j : Nat) ∧ Ow wr (.s 2 lj.length (lj.flatMap DiskMove.cells)) (.slice A l.length c) fp ∧ DiskMove.mkS (lj.take j) k0 (k0 + DiskMove.cntS (l.take j)) ∧ lj.drop j = l.drop j) ∧ Touch fp w wr) (fun _ i _ => l.length - (intOf i).toNat)
  case atStart => exact ⟨⟨0, l, Nat.zero_le _, rfl, by simp [DiskMove.cntS], rfl, h, by simp [DiskMove.cntS, DiskMove.mkS], rfl⟩, Touch.refl _ _⟩
  case round =>
    obtain ⟨⟨j, lj, hj, hlj, rfl, rfl, hoj, hmj, hdj⟩, ht⟩ := hrel
    have HN := hide (ht.new hn)
    have HT := hide ht
    have HM := hide hmj
    have HL := hide hlj
    have HD := hide hdj
    clear hmj ht hdj
    by_cases hlt : j < l.length
    · have hltj : j < lj.length := by omega
      have hxe : lj[j] = l[j] := by
        have h1 : (lj.drop j)[0]? = (l.drop j)[0]? := by rw [HD.out]
        simpa [List.getElem?_drop, List.getElem?_eq_getElem hlt, List.getElem?_eq_getElem hltj] using h1
      have HS := hide (DiskMove.cntS_snoc l j hlt)
      have hle := DiskMove.cntS_le l (j + 1)
      obtain ⟨g, off, us, fi, rfl, hg, hfi, hgi, hnd, hul, hcs, hov, hput⟩ := hoj.upd DiskMove.cells_len HN.out.nd hltj
      rw [hxe] at hov
      have HCN := hide (l[j].cnt_eq)
      clear hxe
      generalize hxx : l[j] = x at *
      have HXX := hide hxx
      clear hxx
      have hbb : k0 + DiskMove.cntS (l.take j) + (2) ≤ 1099511627776 := by have h1 := HS.out; have h2 := HCN.out; have h3 : DiskMove.cntS l ≥ DiskMove.cntS (l.take (j + 1)) := hle; omega
      obtain ⟨rfl, w1, rfl⟩ := hov.oDiskMove
      have p0 := hcs 0 _ rfl
      have p1 := hcs 1 _ rfl
      simp only [Nat.add_zero] at p0
      have hu := HN.out.uf g hg
      have hgl := HN.out.lt g hg
      have hfl : Lt ([]) wr.heap.size := HN.out.lt.sub hfi
      have q0 := unf_frozen hu (off + j * 2)
      have q1 := unf_frozen hu (off + j * 2 + 1)
      have HP := hide hput
      clear hcs hput hov hlj hoj
      have seg0 : Seg g (off + j * 2) (off + j * 2 + 2) [] wr wr := Seg.refl _ _ _ _ _
      go_wp2_with fail
      refine (markText_any _ ((k0 + DiskMove.cntS (l.take j)) + 1) (by omega) (by omega) _).mono ?_
      rintro e w1_ ⟨rfl, hb1⟩
      have t1 : Touch [] _ w1_ := Touch.below hb1
      have sg1 := (seg0.setCell (o := off + j * 2) (by omega) (by omega) (.bool (((k0 : Int) + (DiskMove.cntS (l.take j) : Int)) % 3 == 0)))
      have hgl1 := Nat.lt_of_lt_of_le hgl sg1.size
      have p1_0 : w1_.cell? ⟨g, off + j * 2, none⟩ = some (.bool (((k0 : Int) + (DiskMove.cntS (l.take j) : Int)) % 3 == 0)) := (World.cell?_of_block (a := ⟨g, off + j * 2, none⟩) (t1.block g hgl1 (by simp))).trans (by go_simp)
      have p1_1 : w1_.cell? ⟨g, off + j * 2 + 1, none⟩ = some (.string x.name) := (World.cell?_of_block (a := ⟨g, off + j * 2 + 1, none⟩) (t1.block g hgl1 (by simp))).trans (by go_simp)
      have hu1 := t1.unf g (sg1.unf g hu)
      have q1_0 := unf_frozen hu1 (off + j * 2)
      have q1_1 := unf_frozen hu1 (off + j * 2 + 1)
      have seg1 : Seg g (off + j * 2) (off + j * 2 + 2) ([]) wr w1_ := (Seg.mono sg1 (by intro b hb; first | (cases hb; done) | exact hb | (simp only [List.nil_append, List.append_assoc, List.mem_append, List.mem_cons, List.not_mem_nil, or_false, false_or] at hb ⊢; simp [hb]))).touch t1 (by intro b hb; first | (cases hb; done) | exact hb | (simp only [List.nil_append, List.append_assoc, List.mem_append, List.mem_cons, List.not_mem_nil, or_false, false_or] at hb ⊢; simp [hb])) (by simp) hgl1
      go_wp2
      go_roundw
      case rel =>
        have hseg := Seg.mono (fj := []) (seg1.setCell (o := off + j * 2 + 1) (by omega) (by omega) (.string (mtext ((k0 + DiskMove.cntS (l.take j)) + 1)))) (by intro b hb; first | (cases hb; done) | exact hb | (simp only [List.nil_append, List.append_assoc, List.mem_append, List.mem_cons, List.not_mem_nil, or_false, false_or] at hb ⊢; simp [hb]))
        have hnew := HP.out _ (DiskMove.mk ((((k0 : Int) + (DiskMove.cntS (l.take j) : Int)) % 3 == 0)) (mtext ((k0 + DiskMove.cntS (l.take j)) + 1))) [.bool (((k0 : Int) + (DiskMove.cntS (l.take j) : Int)) % 3 == 0), .string (mtext ((k0 + DiskMove.cntS (l.take j)) + 1))] (by
          have h := OwC.mDiskMove (w := (w1_.setCell ⟨g, off + j * 2 + 1, none⟩ (.string (mtext ((k0 + DiskMove.cntS (l.take j)) + 1))))) (x := (DiskMove.mk ((((k0 : Int) + (DiskMove.cntS (l.take j) : Int)) % 3 == 0)) (mtext ((k0 + DiskMove.cntS (l.take j)) + 1)))) (mtext_size ((k0 + DiskMove.cntS (l.take j)) + 1) (by have := HCN.out; have := HS.out; omega))
          first | exact h | simpa using h) (fun i u hi => by
          match i, hi with
          | 0, hi => simp at hi; subst hi; go_simp
          | 1, hi => simp at hi; subst hi; go_simp) hseg HN.out.lt
        refine ⟨⟨j + 1, lj.set j (DiskMove.mk ((((k0 : Int) + (DiskMove.cntS (l.take j) : Int)) % 3 == 0)) (mtext ((k0 + DiskMove.cntS (l.take j)) + 1))), by omega, by simpa using HL.out, by rw [HS.out, HCN.out]; go_num, by go_num, by rw [List.length_set]; exact hnew, ?_, ?_⟩, HT.out.trans (hseg.to_touch hg hfi)⟩
        · rw [take_set_succ lj j _ (by have := HL.out; omega), HS.out]
          refine DiskMove.mkS_snoc _ _ _ _ _ HM.out ((DiskMove.mk_iff _ _ _).2 ?_)
          exact ⟨rfl, rfl, by rw [HCN.out]; simp only [Nat.add_assoc]; try omega⟩
        · rw [drop_set_succ]
          have h := congrArg (List.drop 1) HD.out
          simpa [List.drop_drop, Nat.add_comm] using h
      case measure => simp [intOf]; omega
    · obtain rfl : j = l.length := by omega
      have HO := hide hoj
      clear hoj hlj
      go_wp2
      go_ret
      have e1 : lj.take l.length = lj := List.take_of_length_le (by have := HL.out; omega)
      have e2 : l.take l.length = l := List.take_length
      have hmm := HM.out
      try rw [e1] at hmm
      try rw [e2] at hmm
      exact ⟨lj, (by first | exact rfl | (rw [e2]; exact rfl)), HL.out, HO.out, hmm, HT.out⟩
theorem markDiskMoveS_any (l : List DiskMove) : MarkDiskMoveS l := markDiskMoveS_of l
end Go.Proofs.YtddjgbhkfdpffaaGreatDoor
set_option linter.unusedVariables false
set_option linter.unusedSimpArgs false
namespace Go.Proofs.YtddjgbhkfdpffaaGreatDoor
open Go.ChangeShapes Go.WideShapes Go.ChangeAt Go.RowKit
def Disk.mkTop (x : Disk) (a b : Nat) : Prop := ∃ e1 e2, DiskFile.mkS x.files a e1 ∧ MkStringS x.names e1 e2 ∧ DiskMove.mkS x.moves e2 b
def Disk.cntTop (x : Disk) : Nat := DiskFile.cntS x.files + x.names.length + DiskMove.cntS x.moves
theorem Disk.cntTop_eq (x : Disk) : x.cntTop = DiskFile.cntS x.files + x.names.length + DiskMove.cntS x.moves := rfl
set_option maxRecDepth 100000 in
set_option maxHeartbeats 1000000 in
theorem markDisk_any (x : Disk) (us : List Value) (fp : List Nat) (lo : Nat) (z : Int) (k0 : Nat) (w : World) (hz : z = k0) (ho : OwC w x.cells us fp) (hn : New w fp lo) (hb : k0 + x.cntTop ≤ 1099511627776) :
    Calls Tryz.prog 12 #[.agg us.toArray, .int .i64 z] w fun e w' => ∃ (x' : Disk), e = .returned (.int .i64 ((k0 + x.cntTop : Nat) : Int)) ∧ OwC w' x'.cells us fp ∧ x'.mkTop k0 (k0 + x.cntTop) ∧ Touch fp w w' := by
  subst hz
  have hc := x.cntTop_eq
  obtain ⟨A1, c1, A2, c2, A3, c3, f1, f2, f3, rfl, o1, o2, o3, rfl⟩ := ho.oDisk
  have hw0 : Below w.heap.size w (w.alloc (.cells #[.slice A1 x.files.length c1, .slice A2 x.names.length c2, .slice A3 x.moves.length c3] 38)) := (Below.refl _ _).alloc (Nat.le_refl _) _
  have R0 : Row (w.alloc (.cells #[.slice A1 x.files.length c1, .slice A2 x.names.length c2, .slice A3 x.moves.length c3] 38)) w.heap.size 38 [.slice A1 x.files.length c1, .slice A2 x.names.length c2, .slice A3 x.moves.length c3] := Row.new w _ _
  have n1 := hn.left
  have r1 := hn.right
  have dj1 := (List.nodup_append.1 hn.nd).2.2
  have n2 := r1.left
  have r2 := r1.right
  have dj2 := (List.nodup_append.1 r1.nd).2.2
  have n3 := r2
  have O1 := hide (o1.below hw0 n1.lt)
  have N1 := hide (n1.alloc (.cells #[.slice A1 x.files.length c1, .slice A2 x.names.length c2, .slice A3 x.moves.length c3] 38))
  have nb1 : w.heap.size ∉ f1 := fun h => Nat.lt_irrefl _ (n1.lt _ h)
  have O2 := hide (o2.below hw0 n2.lt)
  have N2 := hide (n2.alloc (.cells #[.slice A1 x.files.length c1, .slice A2 x.names.length c2, .slice A3 x.moves.length c3] 38))
  have nb2 : w.heap.size ∉ f2 := fun h => Nat.lt_irrefl _ (n2.lt _ h)
  have O3 := hide (o3.below hw0 n3.lt)
  have N3 := hide (n3.alloc (.cells #[.slice A1 x.files.length c1, .slice A2 x.names.length c2, .slice A3 x.moves.length c3] 38))
  have nb3 : w.heap.size ∉ f3 := fun h => Nat.lt_irrefl _ (n3.lt _ h)
  have dd1_2 : ∀ g ∈ f2, g ∉ f1 := fun g hg h => dj1 _ h _ (List.mem_append_left _ hg) rfl
  have dd1_3 : ∀ g ∈ f3, g ∉ f1 := fun g hg h => dj1 _ h _ (List.mem_append_right _ hg) rfl
  have dd2_3 : ∀ g ∈ f3, g ∉ f2 := fun g hg h => dj2 _ h _ hg rfl
  clear ho o1 o2 o3 hn
  have T0 := hide (Touch.below (fp := f1 ++ (f2 ++ (f3))) hw0)
  go_enter Tryz.func12, Tryz.ntmps12
  go_wp2_with fail
  refine (markDiskFileS_any x.files _ _ _ f1 lo _ (k0) _ (by omega) O1.out N1.out (by omega)).mono ?_
  rintro e w1_ ⟨y1, rfl, yl1, yo1, ym1, t1⟩
  have T1 := hide (T0.out.trans (t1.mono (by intro g hg; simp [hg])))
  have YO1 := hide yo1
  have YM1 := hide ym1
  have YL1 := hide yl1
  clear yo1 ym1 yl1
  have R1 : Row w1_ w.heap.size 38 [.slice A1 x.files.length c1, .slice A2 x.names.length c2, .slice A3 x.moves.length c3] := (t1.block _ R0.lt nb1).trans R0
  have O2 := hide (O2.out.touch t1 N2.out.lt dd1_2)
  have N2 := hide (t1.new N2.out)
  have O3 := hide (O3.out.touch t1 N3.out.lt dd1_3)
  have N3 := hide (t1.new N3.out)
  have M1 := hide (t1.new N1.out)
  clear t1
  have lt1 := R1.lt
  have cc1 := R1.cell 1
  go_wp2_with fail
  refine (markStringS_any x.names _ _ _ f2 lo _ ((k0) + DiskFile.cntS x.files) _ (by omega) O2.out N2.out (by omega)).mono ?_
  rintro e w2_ ⟨y2, rfl, yl2, yo2, ym2, t2⟩
  have T2 := hide (T1.out.trans (t2.mono (by intro g hg; simp [hg])))
  have YO2 := hide yo2
  have YM2 := hide ym2
  have YL2 := hide yl2
  clear yo2 ym2 yl2
  have R2 : Row w2_ w.heap.size 38 [.slice A1 x.files.length c1, .slice A2 x.names.length c2, .slice A3 x.moves.length c3] := (t2.block _ R1.lt nb2).trans R1
  have O3 := hide (O3.out.touch t2 N3.out.lt dd2_3)
  have N3 := hide (t2.new N3.out)
  have YO1 := hide (YO1.out.touch t2 M1.out.lt (fun g hg h => dd1_2 g h hg))
  have M1 := hide (t2.new M1.out)
  have M2 := hide (t2.new N2.out)
  clear t2
  have lt2 := R2.lt
  have cc2 := R2.cell 2
  go_wp2_with fail
  refine (markDiskMoveS_any x.moves _ _ _ f3 lo _ (((k0) + DiskFile.cntS x.files) + x.names.length) _ (by omega) O3.out N3.out (by omega)).mono ?_
  rintro e w3_ ⟨y3, rfl, yl3, yo3, ym3, t3⟩
  have T3 := hide (T2.out.trans (t3.mono (by intro g hg; simp [hg])))
  have YO3 := hide yo3
  have YM3 := hide ym3
  have YL3 := hide yl3
  clear yo3 ym3 yl3
  have R3 : Row w3_ w.heap.size 38 [.slice A1 x.files.length c1, .slice A2 x.names.length c2, .slice A3 x.moves.length c3] := (t3.block _ R2.lt nb3).trans R2
  have YO1 := hide (YO1.out.touch t3 M1.out.lt (fun g hg h => dd1_3 g h hg))
  have M1 := hide (t3.new M1.out)
  have YO2 := hide (YO2.out.touch t3 M2.out.lt (fun g hg h => dd2_3 g h hg))
  have M2 := hide (t3.new M2.out)
  have M3 := hide (t3.new N3.out)
  clear t3
  have lt3 := R3.lt
  go_wp2
  go_ret
  refine ⟨(Disk.mk y1 y2 y3), ret_int (by omega), OwC.mDisk YO1.out YO2.out YO3.out, ?_, ?_⟩
  · refine ⟨_, _, YM1.out, YM2.out, ?_⟩
    have h := YM3.out
    rw [hc]
    (try simp only [Nat.add_assoc] at h)
    (try simp only [Nat.add_assoc])
    exact h
  · exact T3.out
end Go.Proofs.YtddjgbhkfdpffaaGreatDoor
