/-
  DiskFile: what the laws' marks write, and that they are found again.
-/
import Derived.Test.YtdingkbggjehoaaDDiskFile
import Derived.Test.YtdingkbggjehoaaMark
set_option linter.unusedVariables false
set_option linter.unusedSimpArgs false
namespace Go.Proofs.Ytdingkbggjehoaa
open Go.ChangeShapes Go.WideShapes Go.ChangeAt Go.RowKit

def DiskFile.mk_ (x : DiskFile) (a b : Nat) : Prop := x.name = mtext a ∧ x.data = mtext (a + 1) ∧ x.kept = (((a + 2) : Nat) : Int) ∧ b = a + 3
def DiskFile.mkS : List DiskFile → Nat → Nat → Prop
  | [], a, b => a = b
  | x :: r, a, b => ∃ c, x.mk_ a c ∧ DiskFile.mkS r c b
def DiskFile.cnt (x : DiskFile) : Nat := 3
def DiskFile.cntS : List DiskFile → Nat
  | [] => 0
  | x :: r => x.cnt + DiskFile.cntS r
theorem DiskFile.mk_iff (x : DiskFile) (a b : Nat) : x.mk_ a b ↔ x.name = mtext a ∧ x.data = mtext (a + 1) ∧ x.kept = (((a + 2) : Nat) : Int) ∧ b = a + 3 := Iff.rfl
theorem DiskFile.cnt_eq (x : DiskFile) : x.cnt = 3 := rfl
theorem DiskFile.mkS_snoc : ∀ (l : List DiskFile) (x : DiskFile) (a c b : Nat), DiskFile.mkS l a c → x.mk_ c b → DiskFile.mkS (l ++ [x]) a b
  | [], x, a, c, b, h, hx => by
    simp only [DiskFile.mkS] at h
    subst h
    exact ⟨b, hx, rfl⟩
  | y :: r, x, a, c, b, h, hx => by
    obtain ⟨d, h1, h2⟩ := h
    exact ⟨d, h1, DiskFile.mkS_snoc r x d c b h2 hx⟩
theorem DiskFile.mkS_drop : ∀ (l : List DiskFile) (b : Nat) (k : Nat) (h : k < l.length) (c : Nat), DiskFile.mkS (l.drop k) c b → ∃ d, l[k].mk_ c d ∧ DiskFile.mkS (l.drop (k + 1)) d b
  | x :: r, b, 0, _, c, h => by
    obtain ⟨d, h1, h2⟩ := h
    exact ⟨d, h1, h2⟩
  | x :: r, b, k + 1, hk, c, h => DiskFile.mkS_drop r b k (by simpa using hk) c h
theorem DiskFile.cntS_append (a b : List DiskFile) : DiskFile.cntS (a ++ b) = DiskFile.cntS a + DiskFile.cntS b := by
  induction a with
  | nil => simp [DiskFile.cntS]
  | cons x a ih => simp [DiskFile.cntS, ih]; omega
theorem DiskFile.cntS_snoc (l : List DiskFile) (k : Nat) (h : k < l.length) : DiskFile.cntS (l.take (k + 1)) = DiskFile.cntS (l.take k) + l[k].cnt := by
  rw [List.take_succ_eq_append_getElem h, DiskFile.cntS_append]
  simp [DiskFile.cntS]
theorem DiskFile.cntS_le (l : List DiskFile) (k : Nat) : DiskFile.cntS (l.take k) ≤ DiskFile.cntS l := by
  conv => rhs; rw [← List.take_append_drop k l, DiskFile.cntS_append]
  omega
theorem DiskFile.mk_le (x : DiskFile) (a b : Nat) (h : x.mk_ a b) : a ≤ b := by
  obtain ⟨h0, h1, h2, hb⟩ := (x.mk_iff a b).1 h
  skip
  omega
theorem DiskFile.mkS_le : ∀ (l : List DiskFile) (a b : Nat), DiskFile.mkS l a b → a ≤ b
  | [], a, b, h => by simp only [DiskFile.mkS] at h; omega
  | x :: r, a, b, h => by
    obtain ⟨c, h1, h2⟩ := h
    exact Nat.le_trans (x.mk_le _ _ h1) (DiskFile.mkS_le r _ _ h2)

def MarkDiskFileS (l : List DiskFile) : Prop := ∀ (A : Option Addr) (n c : Nat) (fp : List Nat) (lo : Nat) (z : Int) (k0 : Nat) (w : World), z = k0 → Ow w (.s 3 l.length (l.flatMap DiskFile.cells)) (.slice A n c) fp → New w fp lo → k0 + DiskFile.cntS l ≤ 1099511627776 →
  Calls Try.prog 135 #[.slice A n c, .int .i64 z] w fun e w' => ∃ (l' : List DiskFile), e = .returned (.int .i64 ((k0 + DiskFile.cntS l : Nat) : Int)) ∧ l'.length = l.length ∧ Ow w' (.s 3 l'.length (l'.flatMap DiskFile.cells)) (.slice A n c) fp ∧ DiskFile.mkS l' k0 (k0 + DiskFile.cntS l) ∧ Touch fp w w'
set_option maxRecDepth 100000 in
set_option maxHeartbeats 1000000 in
theorem markDiskFileS_of (l : List DiskFile) : MarkDiskFileS l := by
  intro A n c fp lo z k0 w hz h hn hb
  subst hz
  obtain ⟨rfl, hc, hm⟩ := h.nlen
  unfold maxLen at hm
  go_enter Try.func135, Try.ntmps135
  go_wp2
  go_loopw [1, 5] (fun a i wr => (∃ (j : Nat) (lj : List DiskFile), j ≤ l.length ∧ lj.length = l.length ∧ a = .int .i64 ((k0 + DiskFile.cntS (l.take j) : Nat) : Int) ∧ i = .int .i64 (j : Nat) ∧ Ow wr (.s 3 lj.length (lj.flatMap DiskFile.cells)) (.slice A l.length c) fp ∧ DiskFile.mkS (lj.take j) k0 (k0 + DiskFile.cntS (l.take j)) ∧ lj.drop j = l.drop j) ∧ Touch fp w wr) (fun _ i _ => l.length - (intOf i).toNat)
  case atStart => exact ⟨⟨0, l, Nat.zero_le _, rfl, by simp [DiskFile.cntS], rfl, h, by simp [DiskFile.cntS, DiskFile.mkS], rfl⟩, Touch.refl _ _⟩
  case round =>
    obtain ⟨⟨j, lj, hj, hlj, rfl, rfl, hoj, hmj, hdj⟩, ht⟩ := hrel
    have HN := hide (ht.new hn)
    have HT := hide ht
    have HM := hide hmj
    have HL := hide hlj
    have HD := hide hdj
    clear hmj ht hdj
    by_cases hlt : j < l.length
    · have hltj : j < lj.length := by omega
      have hxe : lj[j] = l[j] := by
        have h1 : (lj.drop j)[0]? = (l.drop j)[0]? := by rw [HD.out]
        simpa [List.getElem?_drop, List.getElem?_eq_getElem hlt, List.getElem?_eq_getElem hltj] using h1
      have HS := hide (DiskFile.cntS_snoc l j hlt)
      have hle := DiskFile.cntS_le l (j + 1)
      obtain ⟨g, off, us, fi, rfl, hg, hfi, hgi, hnd, hul, hcs, hov, hput⟩ := hoj.upd DiskFile.cells_len HN.out.nd hltj
      rw [hxe] at hov
      have HCN := hide (l[j].cnt_eq)
      clear hxe
      generalize hxx : l[j] = x at *
      have HXX := hide hxx
      clear hxx
      have hbb : k0 + DiskFile.cntS (l.take j) + (3) ≤ 1099511627776 := by have h1 := HS.out; have h2 := HCN.out; have h3 : DiskFile.cntS l ≥ DiskFile.cntS (l.take (j + 1)) := hle; omega
      obtain ⟨rfl, w0, w1, w2, rfl⟩ := hov.oDiskFile
      have p0 := hcs 0 _ rfl
      have p1 := hcs 1 _ rfl
      have p2 := hcs 2 _ rfl
      simp only [Nat.add_zero] at p0
      have hu := HN.out.uf g hg
      have hgl := HN.out.lt g hg
      have hfl : Lt ([]) wr.heap.size := HN.out.lt.sub hfi
      have q0 := unf_frozen hu (off + j * 3)
      have q1 := unf_frozen hu (off + j * 3 + 1)
      have q2 := unf_frozen hu (off + j * 3 + 2)
      have HP := hide hput
      clear hcs hput hov hlj hoj
      have seg0 : Seg g (off + j * 3) (off + j * 3 + 3) [] wr wr := Seg.refl _ _ _ _ _
      go_wp2_with fail
      refine (markText_any _ (k0 + DiskFile.cntS (l.take j)) (by omega) (by omega) _).mono ?_
      rintro e w1_ ⟨rfl, hb1⟩
      have t1 : Touch [] _ w1_ := Touch.below hb1
      have sg1 := seg0
      have hgl1 := Nat.lt_of_lt_of_le hgl sg1.size
      have p1_0 : w1_.cell? ⟨g, off + j * 3, none⟩ = some (.string x.name) := (World.cell?_of_block (a := ⟨g, off + j * 3, none⟩) (t1.block g hgl1 (by simp))).trans (by go_simp)
      have p1_1 : w1_.cell? ⟨g, off + j * 3 + 1, none⟩ = some (.string x.data) := (World.cell?_of_block (a := ⟨g, off + j * 3 + 1, none⟩) (t1.block g hgl1 (by simp))).trans (by go_simp)
      have p1_2 : w1_.cell? ⟨g, off + j * 3 + 2, none⟩ = some (.int .i64 x.kept) := (World.cell?_of_block (a := ⟨g, off + j * 3 + 2, none⟩) (t1.block g hgl1 (by simp))).trans (by go_simp)
      have hu1 := t1.unf g (sg1.unf g hu)
      have q1_0 := unf_frozen hu1 (off + j * 3)
      have q1_1 := unf_frozen hu1 (off + j * 3 + 1)
      have q1_2 := unf_frozen hu1 (off + j * 3 + 2)
      have seg1 : Seg g (off + j * 3) (off + j * 3 + 3) ([]) wr w1_ := (Seg.mono sg1 (by intro b hb; first | (cases hb; done) | exact hb | (simp only [List.nil_append, List.append_assoc, List.mem_append, List.mem_cons, List.not_mem_nil, or_false, false_or] at hb ⊢; simp [hb]))).touch t1 (by intro b hb; first | (cases hb; done) | exact hb | (simp only [List.nil_append, List.append_assoc, List.mem_append, List.mem_cons, List.not_mem_nil, or_false, false_or] at hb ⊢; simp [hb])) (by simp) hgl1
      go_wp2_with fail
      refine (markText_any _ ((k0 + DiskFile.cntS (l.take j)) + 1) (by omega) (by omega) _).mono ?_
      rintro e w2_ ⟨rfl, hb2⟩
      have t2 : Touch [] _ w2_ := Touch.below hb2
      have sg2 := (seg1.setCell (o := off + j * 3) (by omega) (by omega) (.string (mtext (k0 + DiskFile.cntS (l.take j)))))
      have hgl2 := Nat.lt_of_lt_of_le hgl sg2.size
      have p2_0 : w2_.cell? ⟨g, off + j * 3, none⟩ = some (.string (mtext (k0 + DiskFile.cntS (l.take j)))) := (World.cell?_of_block (a := ⟨g, off + j * 3, none⟩) (t2.block g hgl2 (by simp))).trans (by go_simp)
      have p2_1 : w2_.cell? ⟨g, off + j * 3 + 1, none⟩ = some (.string x.data) := (World.cell?_of_block (a := ⟨g, off + j * 3 + 1, none⟩) (t2.block g hgl2 (by simp))).trans (by go_simp)
      have p2_2 : w2_.cell? ⟨g, off + j * 3 + 2, none⟩ = some (.int .i64 x.kept) := (World.cell?_of_block (a := ⟨g, off + j * 3 + 2, none⟩) (t2.block g hgl2 (by simp))).trans (by go_simp)
      have hu2 := t2.unf g (sg2.unf g hu)
      have q2_0 := unf_frozen hu2 (off + j * 3)
      have q2_1 := unf_frozen hu2 (off + j * 3 + 1)
      have q2_2 := unf_frozen hu2 (off + j * 3 + 2)
      have seg2 : Seg g (off + j * 3) (off + j * 3 + 3) ([]) wr w2_ := (Seg.mono sg2 (by intro b hb; first | (cases hb; done) | exact hb | (simp only [List.nil_append, List.append_assoc, List.mem_append, List.mem_cons, List.not_mem_nil, or_false, false_or] at hb ⊢; simp [hb]))).touch t2 (by intro b hb; first | (cases hb; done) | exact hb | (simp only [List.nil_append, List.append_assoc, List.mem_append, List.mem_cons, List.not_mem_nil, or_false, false_or] at hb ⊢; simp [hb])) (by simp) hgl2
      go_wp2
      go_roundw
      case rel =>
        have hseg := Seg.mono (fj := []) ((seg2.setCell (o := off + j * 3 + 1) (by omega) (by omega) (.string (mtext ((k0 + DiskFile.cntS (l.take j)) + 1)))).setCell (o := off + j * 3 + 2) (by omega) (by omega) (.int .i64 ((((k0 + DiskFile.cntS (l.take j)) + 2) : Nat) : Int))) (by intro b hb; first | (cases hb; done) | exact hb | (simp only [List.nil_append, List.append_assoc, List.mem_append, List.mem_cons, List.not_mem_nil, or_false, false_or] at hb ⊢; simp [hb]))
        have hnew := HP.out _ (DiskFile.mk (mtext (k0 + DiskFile.cntS (l.take j))) (mtext ((k0 + DiskFile.cntS (l.take j)) + 1)) (((((k0 + DiskFile.cntS (l.take j)) + 2) : Nat) : Int))) [.string (mtext (k0 + DiskFile.cntS (l.take j))), .string (mtext ((k0 + DiskFile.cntS (l.take j)) + 1)), .int .i64 ((((k0 + DiskFile.cntS (l.take j)) + 2) : Nat) : Int)] (by
          have h := OwC.mDiskFile (w := ((w2_.setCell ⟨g, off + j * 3 + 1, none⟩ (.string (mtext ((k0 + DiskFile.cntS (l.take j)) + 1)))).setCell ⟨g, off + j * 3 + 2, none⟩ (.int .i64 ((((k0 + DiskFile.cntS (l.take j)) + 2) : Nat) : Int)))) (x := (DiskFile.mk (mtext (k0 + DiskFile.cntS (l.take j))) (mtext ((k0 + DiskFile.cntS (l.take j)) + 1)) (((((k0 + DiskFile.cntS (l.take j)) + 2) : Nat) : Int)))) (mtext_size (k0 + DiskFile.cntS (l.take j)) (by have := HCN.out; have := HS.out; omega)) (mtext_size ((k0 + DiskFile.cntS (l.take j)) + 1) (by have := HCN.out; have := HS.out; omega)) (by show (Lit.int .i64 ((((k0 + DiskFile.cntS (l.take j)) + 2) : Nat) : Int)).wf = true; exact WalkArith.wf_i64 (by have := HCN.out; have := HS.out; omega))
          first | exact h | simpa using h) (fun i u hi => by
          match i, hi with
          | 0, hi => simp at hi; subst hi; go_simp
          | 1, hi => simp at hi; subst hi; go_simp
          | 2, hi => simp at hi; subst hi; go_simp) hseg HN.out.lt
        refine ⟨⟨j + 1, lj.set j (DiskFile.mk (mtext (k0 + DiskFile.cntS (l.take j))) (mtext ((k0 + DiskFile.cntS (l.take j)) + 1)) (((((k0 + DiskFile.cntS (l.take j)) + 2) : Nat) : Int))), by omega, by simpa using HL.out, by rw [HS.out, HCN.out]; go_num, by go_num, by rw [List.length_set]; exact hnew, ?_, ?_⟩, HT.out.trans (hseg.to_touch hg hfi)⟩
        · rw [take_set_succ lj j _ (by have := HL.out; omega), HS.out]
          refine DiskFile.mkS_snoc _ _ _ _ _ HM.out ((DiskFile.mk_iff _ _ _).2 ?_)
          exact ⟨rfl, rfl, rfl, by rw [HCN.out]; simp only [Nat.add_assoc]; try omega⟩
        · rw [drop_set_succ]
          have h := congrArg (List.drop 1) HD.out
          simpa [List.drop_drop, Nat.add_comm] using h
      case measure => simp [intOf]; omega
    · obtain rfl : j = l.length := by omega
      have HO := hide hoj
      clear hoj hlj
      go_wp2
      go_ret
      have e1 : lj.take l.length = lj := List.take_of_length_le (by have := HL.out; omega)
      have e2 : l.take l.length = l := List.take_length
      have hmm := HM.out
      try rw [e1] at hmm
      try rw [e2] at hmm
      exact ⟨lj, (by first | exact rfl | (rw [e2]; exact rfl)), HL.out, HO.out, hmm, HT.out⟩
theorem markDiskFileS_any (l : List DiskFile) : MarkDiskFileS l := markDiskFileS_of l
def HeldDiskFileS (l : List DiskFile) : Prop := ∀ (A : Option Addr) (n c : Nat) (fp : List Nat) (z : Int) (a b : Nat) (w : World), z = a → Ow w (.s 3 l.length (l.flatMap DiskFile.cells)) (.slice A n c) fp → Lt fp w.heap.size → DiskFile.mkS l a b → b ≤ 1099511627776 →
  Calls Try.prog 142 #[.slice A n c, .int .i64 z] w fun e w' => e = .returned (.int .i64 (b : Nat)) ∧ Below w.heap.size w w'
set_option maxRecDepth 100000 in
set_option maxHeartbeats 1000000 in
theorem heldDiskFileS_of (l : List DiskFile) : HeldDiskFileS l := by
  intro A n c fp z a b w hz h hf hmk hbb
  subst hz
  obtain ⟨rfl, hc, hm⟩ := h.nlen
  unfold maxLen at hm
  have HMK := hide hmk
  have hab := DiskFile.mkS_le _ _ _ hmk
  clear hmk
  go_enter Try.func142, Try.ntmps142
  go_wp2
  go_loopw [1, 5] (fun u i wr => (∃ (j d : Nat), j ≤ l.length ∧ u = .int .i64 (d : Nat) ∧ i = .int .i64 (j : Nat) ∧ DiskFile.mkS (l.drop j) d b) ∧ Below w.heap.size w wr) (fun _ i _ => l.length - (intOf i).toNat)
  case atStart => exact ⟨⟨0, a, Nat.zero_le _, rfl, rfl, HMK.out⟩, Below.refl _ _⟩
  case round =>
    obtain ⟨⟨j, d, hj, rfl, rfl, hmj⟩, hbel⟩ := hrel
    have HB := hide hbel
    have HJ := hide hmj
    have hdb := DiskFile.mkS_le _ _ _ hmj
    clear hmj
    by_cases hlt : j < l.length
    · obtain ⟨g, off, us, fi, rfl, hg, hfi, hul, hcs, ho⟩ := (h.below HB.out hf).elem DiskFile.cells_len hlt
      obtain ⟨d2, hmx, hmr⟩ := DiskFile.mkS_drop l b j hlt d HJ.out
      have HR := hide hmr
      have hd2 := DiskFile.mkS_le _ _ _ hmr
      clear hmr
      have hgl : g < wr.heap.size := (hf.up HB.out) g hg
      have hfl := (hf.up HB.out).sub hfi
      generalize l[j] = x at *
      obtain ⟨rfl, w0, w1, w2, rfl⟩ := ho.oDiskFile
      obtain ⟨m0, m1, m2, hd2e⟩ := (x.mk_iff _ _).1 hmx
      have HD := hide hd2e
      clear hd2e hmx
      have p0 := hcs 0 _ rfl
      have p1 := hcs 1 _ rfl
      have p2 := hcs 2 _ rfl
      simp only [Nat.add_zero] at p0
      rw [m0] at p0
      rw [m1] at p1
      rw [m2] at p2
      have hbd : d2 ≤ 1099511627776 := by omega
      have z0 : d + 1 ≤ d2 := by have := HD.out; omega
      have z1 : d + 2 ≤ d2 := by have := HD.out; omega
      have z2 : d + 3 ≤ d2 := by have := HD.out; omega
      have hend : d + 3 ≤ d2 := by have := HD.out; omega
      clear m0 m1 m2 hcs ho
      clear hfl
      have B0 := hide (Below.refl wr.heap.size wr)
      go_wp2
      go_region_held3 (fun u => u.cell? ⟨g, off + j * 3, none⟩ = some (.string (mtext d))) (first | go_keep | exact (hb1.cell (p := ⟨g, off + j * 3, none⟩) (by first | exact hgl | exact hgl0)).trans (by go_simp))
        (first | (go_at_call 137; refine (markText_any _ d (by omega) (by omega) _).mono ?_; rintro e w1_ ⟨rfl, hb1⟩))
      have hb1 : Below wr.heap.size wr w1_ := ⟨hb1.os, hb1.tape, hb1.output, hb1.size, hb1.block⟩
      have B1 := hide (B0.out.trans (hb1.mono B0.out.size))
      have hgl1 := Nat.lt_of_lt_of_le hgl B1.out.size
      have p1_1 := (B1.out.cell (p := ⟨g, off + j * 3 + 1, none⟩) hgl).trans p1
      have p1_2 := (B1.out.cell (p := ⟨g, off + j * 3 + 2, none⟩) hgl).trans p2
      go_wp2
      go_region_held3 (fun u => u.cell? ⟨g, off + j * 3 + 1, none⟩ = some (.string (mtext (d + 1)))) (first | go_keep | exact (hb2.cell (p := ⟨g, off + j * 3 + 1, none⟩) (by first | exact hgl | exact hgl1)).trans (by go_simp))
        (first | (go_at_call 137; refine (markText_any _ (d + 1) (by omega) (by omega) _).mono ?_; rintro e w2_ ⟨rfl, hb2⟩))
      have hb2 : Below w1_.heap.size w1_ w2_ := ⟨hb2.os, hb2.tape, hb2.output, hb2.size, hb2.block⟩
      have B2 := hide (B1.out.trans (hb2.mono B1.out.size))
      have hgl2 := Nat.lt_of_lt_of_le hgl B2.out.size
      have p2_2 := (B2.out.cell (p := ⟨g, off + j * 3 + 2, none⟩) hgl).trans p2
      go_wp2
      go_roundw
      case rel => exact ⟨⟨j + 1, d2, by omega, by (rw [HD.out]; try go_num), by go_num, HR.out⟩, HB.out.trans (B2.out.mono HB.out.size)⟩
      case measure => simp [intOf]; omega
    · obtain rfl : j = l.length := by omega
      have e := HJ.out
      rw [List.drop_length] at e
      simp only [DiskFile.mkS] at e
      subst e
      clear HJ
      go_wp2
      go_ret
      exact ⟨rfl, HB.out⟩
theorem heldDiskFileS_any (l : List DiskFile) : HeldDiskFileS l := heldDiskFileS_of l
end Go.Proofs.Ytdingkbggjehoaa
