/-
  DiskMove: what the laws' marks write, and that they are found again.
-/
import Derived.Test.YtdingkbggjehoaaDDiskMove
import Derived.Test.YtdingkbggjehoaaMark
set_option linter.unusedVariables false
set_option linter.unusedSimpArgs false
namespace Go.Proofs.Ytdingkbggjehoaa
open Go.ChangeShapes Go.WideShapes Go.ChangeAt Go.RowKit

def DiskMove.mk_ (x : DiskMove) (a b : Nat) : Prop := x.gone = (((a : Nat) : Int) % 3 == 0) ∧ x.name = mtext (a + 1) ∧ b = a + 2
def DiskMove.mkS : List DiskMove → Nat → Nat → Prop
  | [], a, b => a = b
  | x :: r, a, b => ∃ c, x.mk_ a c ∧ DiskMove.mkS r c b
def DiskMove.cnt (x : DiskMove) : Nat := 2
def DiskMove.cntS : List DiskMove → Nat
  | [] => 0
  | x :: r => x.cnt + DiskMove.cntS r
theorem DiskMove.mk_iff (x : DiskMove) (a b : Nat) : x.mk_ a b ↔ x.gone = (((a : Nat) : Int) % 3 == 0) ∧ x.name = mtext (a + 1) ∧ b = a + 2 := Iff.rfl
theorem DiskMove.cnt_eq (x : DiskMove) : x.cnt = 2 := rfl
theorem DiskMove.mkS_snoc : ∀ (l : List DiskMove) (x : DiskMove) (a c b : Nat), DiskMove.mkS l a c → x.mk_ c b → DiskMove.mkS (l ++ [x]) a b
  | [], x, a, c, b, h, hx => by
    simp only [DiskMove.mkS] at h
    subst h
    exact ⟨b, hx, rfl⟩
  | y :: r, x, a, c, b, h, hx => by
    obtain ⟨d, h1, h2⟩ := h
    exact ⟨d, h1, DiskMove.mkS_snoc r x d c b h2 hx⟩
theorem DiskMove.mkS_drop : ∀ (l : List DiskMove) (b : Nat) (k : Nat) (h : k < l.length) (c : Nat), DiskMove.mkS (l.drop k) c b → ∃ d, l[k].mk_ c d ∧ DiskMove.mkS (l.drop (k + 1)) d b
  | x :: r, b, 0, _, c, h => by
    obtain ⟨d, h1, h2⟩ := h
    exact ⟨d, h1, h2⟩
  | x :: r, b, k + 1, hk, c, h => DiskMove.mkS_drop r b k (by simpa using hk) c h
theorem DiskMove.cntS_append (a b : List DiskMove) : DiskMove.cntS (a ++ b) = DiskMove.cntS a + DiskMove.cntS b := by
  induction a with
  | nil => simp [DiskMove.cntS]
  | cons x a ih => simp [DiskMove.cntS, ih]; omega
theorem DiskMove.cntS_snoc (l : List DiskMove) (k : Nat) (h : k < l.length) : DiskMove.cntS (l.take (k + 1)) = DiskMove.cntS (l.take k) + l[k].cnt := by
  rw [List.take_succ_eq_append_getElem h, DiskMove.cntS_append]
  simp [DiskMove.cntS]
theorem DiskMove.cntS_le (l : List DiskMove) (k : Nat) : DiskMove.cntS (l.take k) ≤ DiskMove.cntS l := by
  conv => rhs; rw [← List.take_append_drop k l, DiskMove.cntS_append]
  omega
theorem DiskMove.mk_le (x : DiskMove) (a b : Nat) (h : x.mk_ a b) : a ≤ b := by
  obtain ⟨h0, h1, hb⟩ := (x.mk_iff a b).1 h
  skip
  omega
theorem DiskMove.mkS_le : ∀ (l : List DiskMove) (a b : Nat), DiskMove.mkS l a b → a ≤ b
  | [], a, b, h => by simp only [DiskMove.mkS] at h; omega
  | x :: r, a, b, h => by
    obtain ⟨c, h1, h2⟩ := h
    exact Nat.le_trans (x.mk_le _ _ h1) (DiskMove.mkS_le r _ _ h2)

def MarkDiskMoveS (l : List DiskMove) : Prop := ∀ (A : Option Addr) (n c : Nat) (fp : List Nat) (lo : Nat) (z : Int) (k0 : Nat) (w : World), z = k0 → Ow w (.s 2 l.length (l.flatMap DiskMove.cells)) (.slice A n c) fp → New w fp lo → k0 + DiskMove.cntS l ≤ 1099511627776 →
  Calls Try.prog 136 #[.slice A n c, .int .i64 z] w fun e w' => ∃ (l' : List DiskMove), e = .returned (.int .i64 ((k0 + DiskMove.cntS l : Nat) : Int)) ∧ l'.length = l.length ∧ Ow w' (.s 2 l'.length (l'.flatMap DiskMove.cells)) (.slice A n c) fp ∧ DiskMove.mkS l' k0 (k0 + DiskMove.cntS l) ∧ Touch fp w w'
set_option maxRecDepth 100000 in
set_option maxHeartbeats 1000000 in
theorem markDiskMoveS_of (l : List DiskMove) : MarkDiskMoveS l := by
  intro A n c fp lo z k0 w hz h hn hb
  subst hz
  obtain ⟨rfl, hc, hm⟩ := h.nlen
  unfold maxLen at hm
  go_enter Try.func136, Try.ntmps136
  go_wp2
  go_loopw [1, 5] (fun a i wr => (∃ (j : Nat) (lj : List DiskMove), j ≤ l.length ∧ lj.length = l.length ∧ a = .int .i64 ((k0 + DiskMove.cntS (l.take j) : Nat) : Int) ∧ i = .int .i64 (j : Nat) ∧ Ow wr (.s 2 lj.length (lj.flatMap DiskMove.cells)) (.slice A l.length c) fp ∧ DiskMove.mkS (lj.take j) k0 (k0 + DiskMove.cntS (l.take j)) ∧ lj.drop j = l.drop j) ∧ Touch fp w wr) (fun _ i _ => l.length - (intOf i).toNat)
  case atStart => exact ⟨⟨0, l, Nat.zero_le _, rfl, by simp [DiskMove.cntS], rfl, h, by simp [DiskMove.cntS, DiskMove.mkS], rfl⟩, Touch.refl _ _⟩
  case round =>
    obtain ⟨⟨j, lj, hj, hlj, rfl, rfl, hoj, hmj, hdj⟩, ht⟩ := hrel
    have HN := hide (ht.new hn)
    have HT := hide ht
    have HM := hide hmj
    have HL := hide hlj
    have HD := hide hdj
    clear hmj ht hdj
    by_cases hlt : j < l.length
    · have hltj : j < lj.length := by omega
      have hxe : lj[j] = l[j] := by
        have h1 : (lj.drop j)[0]? = (l.drop j)[0]? := by rw [HD.out]
        simpa [List.getElem?_drop, List.getElem?_eq_getElem hlt, List.getElem?_eq_getElem hltj] using h1
      have HS := hide (DiskMove.cntS_snoc l j hlt)
      have hle := DiskMove.cntS_le l (j + 1)
      obtain ⟨g, off, us, fi, rfl, hg, hfi, hgi, hnd, hul, hcs, hov, hput⟩ := hoj.upd DiskMove.cells_len HN.out.nd hltj
      rw [hxe] at hov
      have HCN := hide (l[j].cnt_eq)
      clear hxe
      generalize hxx : l[j] = x at *
      have HXX := hide hxx
      clear hxx
      have hbb : k0 + DiskMove.cntS (l.take j) + (2) ≤ 1099511627776 := by have h1 := HS.out; have h2 := HCN.out; have h3 : DiskMove.cntS l ≥ DiskMove.cntS (l.take (j + 1)) := hle; omega
      obtain ⟨rfl, w1, rfl⟩ := hov.oDiskMove
      have p0 := hcs 0 _ rfl
      have p1 := hcs 1 _ rfl
      simp only [Nat.add_zero] at p0
      have hu := HN.out.uf g hg
      have hgl := HN.out.lt g hg
      have hfl : Lt ([]) wr.heap.size := HN.out.lt.sub hfi
      have q0 := unf_frozen hu (off + j * 2)
      have q1 := unf_frozen hu (off + j * 2 + 1)
      have HP := hide hput
      clear hcs hput hov hlj hoj
      have seg0 : Seg g (off + j * 2) (off + j * 2 + 2) [] wr wr := Seg.refl _ _ _ _ _
      go_wp2_with fail
      refine (markText_any _ ((k0 + DiskMove.cntS (l.take j)) + 1) (by omega) (by omega) _).mono ?_
      rintro e w1_ ⟨rfl, hb1⟩
      have t1 : Touch [] _ w1_ := Touch.below hb1
      have sg1 := (seg0.setCell (o := off + j * 2) (by omega) (by omega) (.bool (((k0 : Int) + (DiskMove.cntS (l.take j) : Int)) % 3 == 0)))
      have hgl1 := Nat.lt_of_lt_of_le hgl sg1.size
      have p1_0 : w1_.cell? ⟨g, off + j * 2, none⟩ = some (.bool (((k0 : Int) + (DiskMove.cntS (l.take j) : Int)) % 3 == 0)) := (World.cell?_of_block (a := ⟨g, off + j * 2, none⟩) (t1.block g hgl1 (by simp))).trans (by go_simp)
      have p1_1 : w1_.cell? ⟨g, off + j * 2 + 1, none⟩ = some (.string x.name) := (World.cell?_of_block (a := ⟨g, off + j * 2 + 1, none⟩) (t1.block g hgl1 (by simp))).trans (by go_simp)
      have hu1 := t1.unf g (sg1.unf g hu)
      have q1_0 := unf_frozen hu1 (off + j * 2)
      have q1_1 := unf_frozen hu1 (off + j * 2 + 1)
      have seg1 : Seg g (off + j * 2) (off + j * 2 + 2) ([]) wr w1_ := (Seg.mono sg1 (by intro b hb; first | (cases hb; done) | exact hb | (simp only [List.nil_append, List.append_assoc, List.mem_append, List.mem_cons, List.not_mem_nil, or_false, false_or] at hb ⊢; simp [hb]))).touch t1 (by intro b hb; first | (cases hb; done) | exact hb | (simp only [List.nil_append, List.append_assoc, List.mem_append, List.mem_cons, List.not_mem_nil, or_false, false_or] at hb ⊢; simp [hb])) (by simp) hgl1
      go_wp2
      go_roundw
      case rel =>
        have hseg := Seg.mono (fj := []) (seg1.setCell (o := off + j * 2 + 1) (by omega) (by omega) (.string (mtext ((k0 + DiskMove.cntS (l.take j)) + 1)))) (by intro b hb; first | (cases hb; done) | exact hb | (simp only [List.nil_append, List.append_assoc, List.mem_append, List.mem_cons, List.not_mem_nil, or_false, false_or] at hb ⊢; simp [hb]))
        have hnew := HP.out _ (DiskMove.mk ((((k0 : Int) + (DiskMove.cntS (l.take j) : Int)) % 3 == 0)) (mtext ((k0 + DiskMove.cntS (l.take j)) + 1))) [.bool (((k0 : Int) + (DiskMove.cntS (l.take j) : Int)) % 3 == 0), .string (mtext ((k0 + DiskMove.cntS (l.take j)) + 1))] (by
          have h := OwC.mDiskMove (w := (w1_.setCell ⟨g, off + j * 2 + 1, none⟩ (.string (mtext ((k0 + DiskMove.cntS (l.take j)) + 1))))) (x := (DiskMove.mk ((((k0 : Int) + (DiskMove.cntS (l.take j) : Int)) % 3 == 0)) (mtext ((k0 + DiskMove.cntS (l.take j)) + 1)))) (mtext_size ((k0 + DiskMove.cntS (l.take j)) + 1) (by have := HCN.out; have := HS.out; omega))
          first | exact h | simpa using h) (fun i u hi => by
          match i, hi with
          | 0, hi => simp at hi; subst hi; go_simp
          | 1, hi => simp at hi; subst hi; go_simp) hseg HN.out.lt
        refine ⟨⟨j + 1, lj.set j (DiskMove.mk ((((k0 : Int) + (DiskMove.cntS (l.take j) : Int)) % 3 == 0)) (mtext ((k0 + DiskMove.cntS (l.take j)) + 1))), by omega, by simpa using HL.out, by rw [HS.out, HCN.out]; go_num, by go_num, by rw [List.length_set]; exact hnew, ?_, ?_⟩, HT.out.trans (hseg.to_touch hg hfi)⟩
        · rw [take_set_succ lj j _ (by have := HL.out; omega), HS.out]
          refine DiskMove.mkS_snoc _ _ _ _ _ HM.out ((DiskMove.mk_iff _ _ _).2 ?_)
          exact ⟨rfl, rfl, by rw [HCN.out]; simp only [Nat.add_assoc]; try omega⟩
        · rw [drop_set_succ]
          have h := congrArg (List.drop 1) HD.out
          simpa [List.drop_drop, Nat.add_comm] using h
      case measure => simp [intOf]; omega
    · obtain rfl : j = l.length := by omega
      have HO := hide hoj
      clear hoj hlj
      go_wp2
      go_ret
      have e1 : lj.take l.length = lj := List.take_of_length_le (by have := HL.out; omega)
      have e2 : l.take l.length = l := List.take_length
      have hmm := HM.out
      try rw [e1] at hmm
      try rw [e2] at hmm
      exact ⟨lj, (by first | exact rfl | (rw [e2]; exact rfl)), HL.out, HO.out, hmm, HT.out⟩
theorem markDiskMoveS_any (l : List DiskMove) : MarkDiskMoveS l := markDiskMoveS_of l
def HeldDiskMoveS (l : List DiskMove) : Prop := ∀ (A : Option Addr) (n c : Nat) (fp : List Nat) (z : Int) (a b : Nat) (w : World), z = a → Ow w (.s 2 l.length (l.flatMap DiskMove.cells)) (.slice A n c) fp → Lt fp w.heap.size → DiskMove.mkS l a b → b ≤ 1099511627776 →
  Calls Try.prog 143 #[.slice A n c, .int .i64 z] w fun e w' => e = .returned (.int .i64 (b : Nat)) ∧ Below w.heap.size w w'
set_option maxRecDepth 100000 in
set_option maxHeartbeats 1000000 in
theorem heldDiskMoveS_of (l : List DiskMove) : HeldDiskMoveS l := by
  intro A n c fp z a b w hz h hf hmk hbb
  subst hz
  obtain ⟨rfl, hc, hm⟩ := h.nlen
  unfold maxLen at hm
  have HMK := hide hmk
  have hab := DiskMove.mkS_le _ _ _ hmk
  clear hmk
  go_enter Try.func143, Try.ntmps143
  go_wp2
  go_loopw [1, 5] (fun u i wr => (∃ (j d : Nat), j ≤ l.length ∧ u = .int .i64 (d : Nat) ∧ i = .int .i64 (j : Nat) ∧ DiskMove.mkS (l.drop j) d b) ∧ Below w.heap.size w wr) (fun _ i _ => l.length - (intOf i).toNat)
  case atStart => exact ⟨⟨0, a, Nat.zero_le _, rfl, rfl, HMK.out⟩, Below.refl _ _⟩
  case round =>
    obtain ⟨⟨j, d, hj, rfl, rfl, hmj⟩, hbel⟩ := hrel
    have HB := hide hbel
    have HJ := hide hmj
    have hdb := DiskMove.mkS_le _ _ _ hmj
    clear hmj
    by_cases hlt : j < l.length
    · obtain ⟨g, off, us, fi, rfl, hg, hfi, hul, hcs, ho⟩ := (h.below HB.out hf).elem DiskMove.cells_len hlt
      obtain ⟨d2, hmx, hmr⟩ := DiskMove.mkS_drop l b j hlt d HJ.out
      have HR := hide hmr
      have hd2 := DiskMove.mkS_le _ _ _ hmr
      clear hmr
      have hgl : g < wr.heap.size := (hf.up HB.out) g hg
      have hfl := (hf.up HB.out).sub hfi
      generalize l[j] = x at *
      obtain ⟨rfl, w1, rfl⟩ := ho.oDiskMove
      obtain ⟨m0, m1, hd2e⟩ := (x.mk_iff _ _).1 hmx
      have HD := hide hd2e
      clear hd2e hmx
      have p0 := hcs 0 _ rfl
      have p1 := hcs 1 _ rfl
      simp only [Nat.add_zero] at p0
      rw [m0] at p0
      rw [m1] at p1
      have hbd : d2 ≤ 1099511627776 := by omega
      have z0 : d + 1 ≤ d2 := by have := HD.out; omega
      have z1 : d + 2 ≤ d2 := by have := HD.out; omega
      have hend : d + 2 ≤ d2 := by have := HD.out; omega
      clear m0 m1 hcs ho
      clear hfl
      have B0 := hide (Below.refl wr.heap.size wr)
      go_wp2
      go_region_held3 (fun u => u.cell? ⟨g, off + j * 2 + 1, none⟩ = some (.string (mtext (d + 1)))) (first | go_keep | exact (hb1.cell (p := ⟨g, off + j * 2 + 1, none⟩) (by first | exact hgl | exact hgl0)).trans (by go_simp))
        (first | (go_at_call 137; refine (markText_any _ (d + 1) (by omega) (by omega) _).mono ?_; rintro e w1_ ⟨rfl, hb1⟩))
      have hb1 : Below wr.heap.size wr w1_ := ⟨hb1.os, hb1.tape, hb1.output, hb1.size, hb1.block⟩
      have B1 := hide (B0.out.trans (hb1.mono B0.out.size))
      have hgl1 := Nat.lt_of_lt_of_le hgl B1.out.size
      go_wp2
      go_roundw
      case rel => exact ⟨⟨j + 1, d2, by omega, by (rw [HD.out]; try go_num), by go_num, HR.out⟩, HB.out.trans (B1.out.mono HB.out.size)⟩
      case measure => simp [intOf]; omega
    · obtain rfl : j = l.length := by omega
      have e := HJ.out
      rw [List.drop_length] at e
      simp only [DiskMove.mkS] at e
      subst e
      clear HJ
      go_wp2
      go_ret
      exact ⟨rfl, HB.out⟩
theorem heldDiskMoveS_any (l : List DiskMove) : HeldDiskMoveS l := heldDiskMoveS_of l
end Go.Proofs.Ytdingkbggjehoaa
