/-
  DiskWrite: what the laws' marks write, and that they are found again. The laws' marks at a LogAct by value: only its slices are marked.
-/
import Derived.Test.YtddjgbhkfdpffaaGreatDoorWDDiskWrite
import Derived.Test.YtddjgbhkfdpffaaGreatDoorWRead
import Derived.Test.YtddjgbhkfdpffaaGreatDoorWMark
set_option linter.unusedVariables false
set_option linter.unusedSimpArgs false
namespace Go.Proofs.YtddjgbhkfdpffaaGreatDoor
open Go.ChangeShapes Go.WideShapes Go.ChangeAt Go.RowKit

def DiskWrite.mk_ (x : DiskWrite) (a b : Nat) : Prop := x.kind = ((a : Nat) : Int) ∧ x.name = mtext (a + 1) ∧ x.data = mtext (a + 2) ∧ b = a + 3
def DiskWrite.mkS : List DiskWrite → Nat → Nat → Prop
  | [], a, b => a = b
  | x :: r, a, b => ∃ c, x.mk_ a c ∧ DiskWrite.mkS r c b
def DiskWrite.cnt (x : DiskWrite) : Nat := 3
def DiskWrite.cntS : List DiskWrite → Nat
  | [] => 0
  | x :: r => x.cnt + DiskWrite.cntS r
theorem DiskWrite.mk_iff (x : DiskWrite) (a b : Nat) : x.mk_ a b ↔ x.kind = ((a : Nat) : Int) ∧ x.name = mtext (a + 1) ∧ x.data = mtext (a + 2) ∧ b = a + 3 := Iff.rfl
theorem DiskWrite.cnt_eq (x : DiskWrite) : x.cnt = 3 := rfl
theorem DiskWrite.mkS_snoc : ∀ (l : List DiskWrite) (x : DiskWrite) (a c b : Nat), DiskWrite.mkS l a c → x.mk_ c b → DiskWrite.mkS (l ++ [x]) a b
  | [], x, a, c, b, h, hx => by
    simp only [DiskWrite.mkS] at h
    subst h
    exact ⟨b, hx, rfl⟩
  | y :: r, x, a, c, b, h, hx => by
    obtain ⟨d, h1, h2⟩ := h
    exact ⟨d, h1, DiskWrite.mkS_snoc r x d c b h2 hx⟩
theorem DiskWrite.mkS_drop : ∀ (l : List DiskWrite) (b : Nat) (k : Nat) (h : k < l.length) (c : Nat), DiskWrite.mkS (l.drop k) c b → ∃ d, l[k].mk_ c d ∧ DiskWrite.mkS (l.drop (k + 1)) d b
  | x :: r, b, 0, _, c, h => by
    obtain ⟨d, h1, h2⟩ := h
    exact ⟨d, h1, h2⟩
  | x :: r, b, k + 1, hk, c, h => DiskWrite.mkS_drop r b k (by simpa using hk) c h
theorem DiskWrite.cntS_append (a b : List DiskWrite) : DiskWrite.cntS (a ++ b) = DiskWrite.cntS a + DiskWrite.cntS b := by
  induction a with
  | nil => simp [DiskWrite.cntS]
  | cons x a ih => simp [DiskWrite.cntS, ih]; omega
theorem DiskWrite.cntS_snoc (l : List DiskWrite) (k : Nat) (h : k < l.length) : DiskWrite.cntS (l.take (k + 1)) = DiskWrite.cntS (l.take k) + l[k].cnt := by
  rw [List.take_succ_eq_append_getElem h, DiskWrite.cntS_append]
  simp [DiskWrite.cntS]
theorem DiskWrite.cntS_le (l : List DiskWrite) (k : Nat) : DiskWrite.cntS (l.take k) ≤ DiskWrite.cntS l := by
  conv => rhs; rw [← List.take_append_drop k l, DiskWrite.cntS_append]
  omega
theorem DiskWrite.mk_le (x : DiskWrite) (a b : Nat) (h : x.mk_ a b) : a ≤ b := by
  obtain ⟨h0, h1, h2, hb⟩ := (x.mk_iff a b).1 h
  skip
  omega
theorem DiskWrite.mkS_le : ∀ (l : List DiskWrite) (a b : Nat), DiskWrite.mkS l a b → a ≤ b
  | [], a, b, h => by simp only [DiskWrite.mkS] at h; omega
  | x :: r, a, b, h => by
    obtain ⟨c, h1, h2⟩ := h
    exact Nat.le_trans (x.mk_le _ _ h1) (DiskWrite.mkS_le r _ _ h2)

def MarkDiskWriteS (l : List DiskWrite) : Prop := ∀ (A : Option Addr) (n c : Nat) (fp : List Nat) (lo : Nat) (z : Int) (k0 : Nat) (w : World), z = k0 → Ow w (.s 3 l.length (l.flatMap DiskWrite.cells)) (.slice A n c) fp → New w fp lo → k0 + DiskWrite.cntS l ≤ 1099511627776 →
  Calls Tryz.prog 22 #[.slice A n c, .int .i64 z] w fun e w' => ∃ (l' : List DiskWrite), e = .returned (.int .i64 ((k0 + DiskWrite.cntS l : Nat) : Int)) ∧ l'.length = l.length ∧ Ow w' (.s 3 l'.length (l'.flatMap DiskWrite.cells)) (.slice A n c) fp ∧ DiskWrite.mkS l' k0 (k0 + DiskWrite.cntS l) ∧ Touch fp w w'
set_option maxRecDepth 100000 in
set_option maxHeartbeats 1000000 in
theorem markDiskWriteS_of (l : List DiskWrite) : MarkDiskWriteS l := by
  intro A n c fp lo z k0 w hz h hn hb
  subst hz
  obtain ⟨rfl, hc, hm⟩ := h.nlen
  unfold maxLen at hm
  go_enter Tryz.func22, Tryz.ntmps22
  go_wp2
  go_loopw [1, 5] (fun a i wr => (∃ (j : Nat) (lj : List DiskWrite), j ≤ l.length ∧ lj.length = l.length ∧ a = .int .i64 ((k0 + DiskWrite.cntS (l.take j) : Nat) : Int) ∧ i = .int .i64 (j : Nat) ∧ Ow wr (.s 3 lj.length (lj.flatMap DiskWrite.cells)) (.slice A l.length c) fp ∧ DiskWrite.mkS (lj.take j) k0 (k0 + DiskWrite.cntS (l.take j)) ∧ lj.drop j = l.drop j) ∧ Touch fp w wr) (fun _ i _ => l.length - (intOf i).toNat)
  case atStart => exact ⟨⟨0, l, Nat.zero_le _, rfl, by simp [DiskWrite.cntS], rfl, h, by simp [DiskWrite.cntS, DiskWrite.mkS], rfl⟩, Touch.refl _ _⟩
  case round =>
    obtain ⟨⟨j, lj, hj, hlj, rfl, rfl, hoj, hmj, hdj⟩, ht⟩ := hrel
    have HN := hide (ht.new hn)
    have HT := hide ht
    have HM := hide hmj
    have HL := hide hlj
    have HD := hide hdj
    clear hmj ht hdj
    by_cases hlt : j < l.length
    · have hltj : j < lj.length := by omega
      have hxe : lj[j] = l[j] := by
        have h1 : (lj.drop j)[0]? = (l.drop j)[0]? := by rw [HD.out]
        simpa [List.getElem?_drop, List.getElem?_eq_getElem hlt, List.getElem?_eq_getElem hltj] using h1
      have HS := hide (DiskWrite.cntS_snoc l j hlt)
      have hle := DiskWrite.cntS_le l (j + 1)
      obtain ⟨g, off, us, fi, rfl, hg, hfi, hgi, hnd, hul, hcs, hov, hput⟩ := hoj.upd DiskWrite.cells_len HN.out.nd hltj
      rw [hxe] at hov
      have HCN := hide (l[j].cnt_eq)
      clear hxe
      generalize hxx : l[j] = x at *
      have HXX := hide hxx
      clear hxx
      have hbb : k0 + DiskWrite.cntS (l.take j) + (3) ≤ 1099511627776 := by have h1 := HS.out; have h2 := HCN.out; have h3 : DiskWrite.cntS l ≥ DiskWrite.cntS (l.take (j + 1)) := hle; omega
      obtain ⟨rfl, w0, w1, w2, rfl⟩ := hov.oDiskWrite
      have p0 := hcs 0 _ rfl
      have p1 := hcs 1 _ rfl
      have p2 := hcs 2 _ rfl
      simp only [Nat.add_zero] at p0
      have hu := HN.out.uf g hg
      have hgl := HN.out.lt g hg
      have hfl : Lt ([]) wr.heap.size := HN.out.lt.sub hfi
      have q0 := unf_frozen hu (off + j * 3)
      have q1 := unf_frozen hu (off + j * 3 + 1)
      have q2 := unf_frozen hu (off + j * 3 + 2)
      have HP := hide hput
      clear hcs hput hov hlj hoj
      have seg0 : Seg g (off + j * 3) (off + j * 3 + 3) [] wr wr := Seg.refl _ _ _ _ _
      go_wp2_with fail
      refine (markText_any _ ((k0 + DiskWrite.cntS (l.take j)) + 1) (by omega) (by omega) _).mono ?_
      rintro e w1_ ⟨rfl, hb1⟩
      have t1 : Touch [] _ w1_ := Touch.below hb1
      have sg1 := (seg0.setCell (o := off + j * 3) (by omega) (by omega) (.int .i64 (((k0 + DiskWrite.cntS (l.take j)) : Nat) : Int)))
      have hgl1 := Nat.lt_of_lt_of_le hgl sg1.size
      have p1_0 : w1_.cell? ⟨g, off + j * 3, none⟩ = some (.int .i64 (((k0 + DiskWrite.cntS (l.take j)) : Nat) : Int)) := (World.cell?_of_block (a := ⟨g, off + j * 3, none⟩) (t1.block g hgl1 (by simp))).trans (by go_simp <;> omega)
      have p1_1 : w1_.cell? ⟨g, off + j * 3 + 1, none⟩ = some (.string x.name) := (World.cell?_of_block (a := ⟨g, off + j * 3 + 1, none⟩) (t1.block g hgl1 (by simp))).trans (by go_simp <;> omega)
      have p1_2 : w1_.cell? ⟨g, off + j * 3 + 2, none⟩ = some (.string x.data) := (World.cell?_of_block (a := ⟨g, off + j * 3 + 2, none⟩) (t1.block g hgl1 (by simp))).trans (by go_simp <;> omega)
      have hu1 := t1.unf g (sg1.unf g hu)
      have q1_0 := unf_frozen hu1 (off + j * 3)
      have q1_1 := unf_frozen hu1 (off + j * 3 + 1)
      have q1_2 := unf_frozen hu1 (off + j * 3 + 2)
      have seg1 : Seg g (off + j * 3) (off + j * 3 + 3) ([]) wr w1_ := (Seg.mono sg1 (by intro b hb; first | (cases hb; done) | exact hb | (simp only [List.nil_append, List.append_assoc, List.mem_append, List.mem_cons, List.not_mem_nil, or_false, false_or] at hb ⊢; simp [hb]))).touch t1 (by intro b hb; first | (cases hb; done) | exact hb | (simp only [List.nil_append, List.append_assoc, List.mem_append, List.mem_cons, List.not_mem_nil, or_false, false_or] at hb ⊢; simp [hb])) (by simp) hgl1
      go_wp2_with fail
      refine (markText_any _ ((k0 + DiskWrite.cntS (l.take j)) + 2) (by omega) (by omega) _).mono ?_
      rintro e w2_ ⟨rfl, hb2⟩
      have t2 : Touch [] _ w2_ := Touch.below hb2
      have sg2 := (seg1.setCell (o := off + j * 3 + 1) (by omega) (by omega) (.string (mtext ((k0 + DiskWrite.cntS (l.take j)) + 1))))
      have hgl2 := Nat.lt_of_lt_of_le hgl sg2.size
      have p2_0 : w2_.cell? ⟨g, off + j * 3, none⟩ = some (.int .i64 (((k0 + DiskWrite.cntS (l.take j)) : Nat) : Int)) := (World.cell?_of_block (a := ⟨g, off + j * 3, none⟩) (t2.block g hgl2 (by simp))).trans (by go_simp <;> omega)
      have p2_1 : w2_.cell? ⟨g, off + j * 3 + 1, none⟩ = some (.string (mtext ((k0 + DiskWrite.cntS (l.take j)) + 1))) := (World.cell?_of_block (a := ⟨g, off + j * 3 + 1, none⟩) (t2.block g hgl2 (by simp))).trans (by go_simp <;> omega)
      have p2_2 : w2_.cell? ⟨g, off + j * 3 + 2, none⟩ = some (.string x.data) := (World.cell?_of_block (a := ⟨g, off + j * 3 + 2, none⟩) (t2.block g hgl2 (by simp))).trans (by go_simp <;> omega)
      have hu2 := t2.unf g (sg2.unf g hu)
      have q2_0 := unf_frozen hu2 (off + j * 3)
      have q2_1 := unf_frozen hu2 (off + j * 3 + 1)
      have q2_2 := unf_frozen hu2 (off + j * 3 + 2)
      have seg2 : Seg g (off + j * 3) (off + j * 3 + 3) ([]) wr w2_ := (Seg.mono sg2 (by intro b hb; first | (cases hb; done) | exact hb | (simp only [List.nil_append, List.append_assoc, List.mem_append, List.mem_cons, List.not_mem_nil, or_false, false_or] at hb ⊢; simp [hb]))).touch t2 (by intro b hb; first | (cases hb; done) | exact hb | (simp only [List.nil_append, List.append_assoc, List.mem_append, List.mem_cons, List.not_mem_nil, or_false, false_or] at hb ⊢; simp [hb])) (by simp) hgl2
      go_wp2
      go_roundw
      case rel =>
        have hseg := Seg.mono (fj := []) (seg2.setCell (o := off + j * 3 + 2) (by omega) (by omega) (.string (mtext ((k0 + DiskWrite.cntS (l.take j)) + 2)))) (by intro b hb; first | (cases hb; done) | exact hb | (simp only [List.nil_append, List.append_assoc, List.mem_append, List.mem_cons, List.not_mem_nil, or_false, false_or] at hb ⊢; simp [hb]))
        have hnew := HP.out _ (DiskWrite.mk ((((k0 + DiskWrite.cntS (l.take j)) : Nat) : Int)) (mtext ((k0 + DiskWrite.cntS (l.take j)) + 1)) (mtext ((k0 + DiskWrite.cntS (l.take j)) + 2))) [.int .i64 (((k0 + DiskWrite.cntS (l.take j)) : Nat) : Int), .string (mtext ((k0 + DiskWrite.cntS (l.take j)) + 1)), .string (mtext ((k0 + DiskWrite.cntS (l.take j)) + 2))] (by
          have h := OwC.mDiskWrite (w := (w2_.setCell ⟨g, off + j * 3 + 2, none⟩ (.string (mtext ((k0 + DiskWrite.cntS (l.take j)) + 2))))) (x := (DiskWrite.mk ((((k0 + DiskWrite.cntS (l.take j)) : Nat) : Int)) (mtext ((k0 + DiskWrite.cntS (l.take j)) + 1)) (mtext ((k0 + DiskWrite.cntS (l.take j)) + 2)))) (by show (Lit.int .i64 (((k0 + DiskWrite.cntS (l.take j)) : Nat) : Int)).wf = true; exact WalkArith.wf_i64 (by have := HCN.out; have := HS.out; omega)) (mtext_size ((k0 + DiskWrite.cntS (l.take j)) + 1) (by have := HCN.out; have := HS.out; omega)) (mtext_size ((k0 + DiskWrite.cntS (l.take j)) + 2) (by have := HCN.out; have := HS.out; omega))
          first | exact h | simpa using h) (fun i u hi => by
          match i, hi with
          | 0, hi => simp at hi; subst hi; go_simp
          | 1, hi => simp at hi; subst hi; go_simp
          | 2, hi => simp at hi; subst hi; go_simp) hseg HN.out.lt
        refine ⟨⟨j + 1, lj.set j (DiskWrite.mk ((((k0 + DiskWrite.cntS (l.take j)) : Nat) : Int)) (mtext ((k0 + DiskWrite.cntS (l.take j)) + 1)) (mtext ((k0 + DiskWrite.cntS (l.take j)) + 2))), by omega, by simpa using HL.out, by rw [HS.out, HCN.out]; go_num, by go_num, by rw [List.length_set]; exact hnew, ?_, ?_⟩, HT.out.trans (hseg.to_touch hg hfi)⟩
        · rw [take_set_succ lj j _ (by have := HL.out; omega), HS.out]
          refine DiskWrite.mkS_snoc _ _ _ _ _ HM.out ((DiskWrite.mk_iff _ _ _).2 ?_)
          exact ⟨rfl, rfl, rfl, by rw [HCN.out]; simp only [Nat.add_assoc]; try omega⟩
        · rw [drop_set_succ]
          have h := congrArg (List.drop 1) HD.out
          simpa [List.drop_drop, Nat.add_comm] using h
      case measure => simp [intOf]; omega
    · obtain rfl : j = l.length := by omega
      have HO := hide hoj
      clear hoj hlj
      go_wp2
      go_ret
      have e1 : lj.take l.length = lj := List.take_of_length_le (by have := HL.out; omega)
      have e2 : l.take l.length = l := List.take_length
      have hmm := HM.out
      try rw [e1] at hmm
      try rw [e2] at hmm
      exact ⟨lj, (by first | exact rfl | (rw [e2]; exact rfl)), HL.out, HO.out, hmm, HT.out⟩
theorem markDiskWriteS_any (l : List DiskWrite) : MarkDiskWriteS l := markDiskWriteS_of l
def HeldDiskWriteS (l : List DiskWrite) : Prop := ∀ (A : Option Addr) (n c : Nat) (fp : List Nat) (z : Int) (a b : Nat) (w : World), z = a → Ow w (.s 3 l.length (l.flatMap DiskWrite.cells)) (.slice A n c) fp → Lt fp w.heap.size → DiskWrite.mkS l a b → b ≤ 1099511627776 →
  Calls Tryz.prog 23 #[.slice A n c, .int .i64 z] w fun e w' => e = .returned (.int .i64 (b : Nat)) ∧ Below w.heap.size w w'
set_option maxRecDepth 100000 in
set_option maxHeartbeats 1000000 in
theorem heldDiskWriteS_of (l : List DiskWrite) : HeldDiskWriteS l := by
  intro A n c fp z a b w hz h hf hmk hbb
  subst hz
  obtain ⟨rfl, hc, hm⟩ := h.nlen
  unfold maxLen at hm
  have HMK := hide hmk
  have hab := DiskWrite.mkS_le _ _ _ hmk
  clear hmk
  go_enter Tryz.func23, Tryz.ntmps23
  go_wp2
  go_loopw [1, 5] (fun u i wr => (∃ (j d : Nat), j ≤ l.length ∧ u = .int .i64 (d : Nat) ∧ i = .int .i64 (j : Nat) ∧ DiskWrite.mkS (l.drop j) d b) ∧ Below w.heap.size w wr) (fun _ i _ => l.length - (intOf i).toNat)
  case atStart => exact ⟨⟨0, a, Nat.zero_le _, rfl, rfl, HMK.out⟩, Below.refl _ _⟩
  case round =>
    obtain ⟨⟨j, d, hj, rfl, rfl, hmj⟩, hbel⟩ := hrel
    have HB := hide hbel
    have HJ := hide hmj
    have hdb := DiskWrite.mkS_le _ _ _ hmj
    clear hmj
    by_cases hlt : j < l.length
    · obtain ⟨g, off, us, fi, rfl, hg, hfi, hul, hcs, ho⟩ := (h.below HB.out hf).elem DiskWrite.cells_len hlt
      obtain ⟨d2, hmx, hmr⟩ := DiskWrite.mkS_drop l b j hlt d HJ.out
      have HR := hide hmr
      have hd2 := DiskWrite.mkS_le _ _ _ hmr
      clear hmr
      have hgl : g < wr.heap.size := (hf.up HB.out) g hg
      have hfl := (hf.up HB.out).sub hfi
      generalize l[j] = x at *
      obtain ⟨rfl, w0, w1, w2, rfl⟩ := ho.oDiskWrite
      obtain ⟨m0, m1, m2, hd2e⟩ := (x.mk_iff _ _).1 hmx
      have HD := hide hd2e
      clear hd2e hmx
      have p0 := hcs 0 _ rfl
      have p1 := hcs 1 _ rfl
      have p2 := hcs 2 _ rfl
      simp only [Nat.add_zero] at p0
      rw [m0] at p0
      rw [m1] at p1
      rw [m2] at p2
      have hbd : d2 ≤ 1099511627776 := by omega
      have z0 : d + 1 ≤ d2 := by have := HD.out; omega
      have z1 : d + 2 ≤ d2 := by have := HD.out; omega
      have z2 : d + 3 ≤ d2 := by have := HD.out; omega
      have hend : d + 3 ≤ d2 := by have := HD.out; omega
      clear m0 m1 m2 hcs ho
      clear hfl
      have B0 := hide (Below.refl wr.heap.size wr)
      go_wp2
      go_region_held3 (fun u => u.cell? ⟨g, off + j * 3 + 1, none⟩ = some (.string (mtext (d + 1)))) (first | go_keep | exact (hb1.cell (p := ⟨g, off + j * 3 + 1, none⟩) (by first | exact hgl | exact hgl0)).trans (by go_simp <;> omega))
        (first | (go_at_call 64; refine (markText_any _ (d + 1) (by omega) (by omega) _).mono ?_; rintro e w1_ ⟨rfl, hb1⟩))
      have hb1 : Below wr.heap.size wr w1_ := ⟨hb1.os, hb1.tape, hb1.output, hb1.size, hb1.block⟩
      have B1 := hide (B0.out.trans (hb1.mono B0.out.size))
      have hgl1 := Nat.lt_of_lt_of_le hgl B1.out.size
      have p1_2 := (B1.out.cell (p := ⟨g, off + j * 3 + 2, none⟩) hgl).trans p2
      go_wp2
      go_region_held3 (fun u => u.cell? ⟨g, off + j * 3 + 2, none⟩ = some (.string (mtext (d + 2)))) (first | go_keep | exact (hb2.cell (p := ⟨g, off + j * 3 + 2, none⟩) (by first | exact hgl | exact hgl1)).trans (by go_simp <;> omega))
        (first | (go_at_call 64; refine (markText_any _ (d + 2) (by omega) (by omega) _).mono ?_; rintro e w2_ ⟨rfl, hb2⟩))
      have hb2 : Below w1_.heap.size w1_ w2_ := ⟨hb2.os, hb2.tape, hb2.output, hb2.size, hb2.block⟩
      have B2 := hide (B1.out.trans (hb2.mono B1.out.size))
      have hgl2 := Nat.lt_of_lt_of_le hgl B2.out.size
      go_wp2
      go_roundw
      case rel => exact ⟨⟨j + 1, d2, by omega, by (rw [HD.out]; try go_num), by go_num, HR.out⟩, HB.out.trans (B2.out.mono HB.out.size)⟩
      case measure => simp [intOf]; omega
    · obtain rfl : j = l.length := by omega
      have e := HJ.out
      rw [List.drop_length] at e
      simp only [DiskWrite.mkS] at e
      subst e
      clear HJ
      go_wp2
      go_ret
      exact ⟨rfl, HB.out⟩
theorem heldDiskWriteS_any (l : List DiskWrite) : HeldDiskWriteS l := heldDiskWriteS_of l
end Go.Proofs.YtddjgbhkfdpffaaGreatDoor
set_option linter.unusedVariables false
set_option linter.unusedSimpArgs false
namespace Go.Proofs.YtddjgbhkfdpffaaGreatDoor
open Go.ChangeShapes Go.WideShapes Go.ChangeAt Go.RowKit
def LogAct.mkTop (x : LogAct) (a b : Nat) : Prop := MkIntS x.keep a b
def LogAct.cntTop (x : LogAct) : Nat := x.keep.length
theorem LogAct.cntTop_eq (x : LogAct) : x.cntTop = x.keep.length := rfl
set_option maxRecDepth 100000 in
set_option maxHeartbeats 1000000 in
theorem markLogAct_any (x : LogAct) (us : List Value) (fp : List Nat) (lo : Nat) (z : Int) (k0 : Nat) (w : World) (hz : z = k0) (ho : OwC w x.cells us fp) (hn : New w fp lo) (hb : k0 + x.cntTop ≤ 1099511627776) :
    Calls Tryz.prog 21 #[.agg us.toArray, .int .i64 z] w fun e w' => ∃ (x' : LogAct), e = .returned (.int .i64 ((k0 + x.cntTop : Nat) : Int)) ∧ OwC w' x'.cells us fp ∧ x'.mkTop k0 (k0 + x.cntTop) ∧ Touch fp w w' := by
  subst hz
  have hc := x.cntTop_eq
  obtain ⟨A1, c1, f1, rfl, w0, w1, w3, w4, o1, rfl⟩ := ho.oLogAct
  have hw0 : Below w.heap.size w (w.alloc (.cells #[.int .i64 x.kind, .string x.data, .bool x.cuts, .int .i64 x.after, .int .i64 x.moves, .slice A1 x.keep.length c1] 52)) := (Below.refl _ _).alloc (Nat.le_refl _) _
  have R0 : Row (w.alloc (.cells #[.int .i64 x.kind, .string x.data, .bool x.cuts, .int .i64 x.after, .int .i64 x.moves, .slice A1 x.keep.length c1] 52)) w.heap.size 52 [.int .i64 x.kind, .string x.data, .bool x.cuts, .int .i64 x.after, .int .i64 x.moves, .slice A1 x.keep.length c1] := Row.new w _ _
  have n1 := hn
  have O1 := hide (o1.below hw0 n1.lt)
  have N1 := hide (n1.alloc (.cells #[.int .i64 x.kind, .string x.data, .bool x.cuts, .int .i64 x.after, .int .i64 x.moves, .slice A1 x.keep.length c1] 52))
  have nb1 : w.heap.size ∉ f1 := fun h => Nat.lt_irrefl _ (n1.lt _ h)
  clear ho o1 hn
  have T0 := hide (Touch.below (fp := f1) hw0)
  go_enter Tryz.func21, Tryz.ntmps21
  go_wp2_with fail
  refine (markIntS_any x.keep _ _ _ f1 lo _ (k0) _ (by omega) O1.out N1.out (by omega)).mono ?_
  rintro e w1_ ⟨y1, rfl, yl1, yo1, ym1, t1⟩
  have T1 := hide (T0.out.trans (t1.mono (by intro g hg; simp [hg])))
  have YO1 := hide yo1
  have YM1 := hide ym1
  have YL1 := hide yl1
  clear yo1 ym1 yl1
  have R1 : Row w1_ w.heap.size 52 [.int .i64 x.kind, .string x.data, .bool x.cuts, .int .i64 x.after, .int .i64 x.moves, .slice A1 x.keep.length c1] := (t1.block _ R0.lt nb1).trans R0
  have M1 := hide (t1.new N1.out)
  clear t1
  have lt1 := R1.lt
  go_wp2
  go_ret
  refine ⟨(LogAct.mk x.kind x.data x.cuts x.after x.moves y1), ret_int (by omega), OwC.mLogAct w0 w1 w3 w4 YO1.out, ?_, ?_⟩
  · skip
    have h := YM1.out
    rw [hc]
    (try simp only [Nat.add_assoc] at h)
    (try simp only [Nat.add_assoc])
    exact h
  · exact T1.out
end Go.Proofs.YtddjgbhkfdpffaaGreatDoor
