/-
  Event: what the laws' marks write, and that they are found again. The laws' marks at a Record by value: only its slices are marked. How much the marks count at RecUnpack's answer.
-/
import Derived.Test.YtbjblchhenmgjaaQpG
import Derived.Test.YtbjblchhenmgjaaQpN
import Derived.Test.YtbjblchhenmgjaaQpO
import Derived.Test.YtbjblchhenmgjaaQpH
import Derived.Test.YtbjblchhenmgjaaQpP
import Derived.Test.YtbjblchhenmgjaaQpJ
set_option linter.unusedVariables false
set_option linter.unusedSimpArgs false
namespace Go.Proofs.Ytbjblchhenmgjaa
open Go.ChangeShapes Go.WideShapes Go.ChangeAt Go.RowKit

def Event.mk_ (x : Event) (a b : Nat) : Prop := ∃ e1 e2 : Nat, x.type_ = mtext a ∧ x.version = (((a + 1) : Nat) : Int) ∧ x.body.sort = (((a + 2) : Nat) : Int) ∧ x.body.num = (((a + 3) : Nat) : Int) ∧ x.body.text = mtext (a + 4) ∧ MkStringS x.body.names (a + 5) e1 ∧ Tree.mkS x.body.kids e1 e2 ∧ b = e2
def Event.mkS : List Event → Nat → Nat → Prop
  | [], a, b => a = b
  | x :: r, a, b => ∃ c, x.mk_ a c ∧ Event.mkS r c b
def Event.cnt (x : Event) : Nat := 5 + x.body.names.length + Tree.cntS x.body.kids
def Event.cntS : List Event → Nat
  | [] => 0
  | x :: r => x.cnt + Event.cntS r
theorem Event.mk_iff (x : Event) (a b : Nat) : x.mk_ a b ↔ ∃ e1 e2 : Nat, x.type_ = mtext a ∧ x.version = (((a + 1) : Nat) : Int) ∧ x.body.sort = (((a + 2) : Nat) : Int) ∧ x.body.num = (((a + 3) : Nat) : Int) ∧ x.body.text = mtext (a + 4) ∧ MkStringS x.body.names (a + 5) e1 ∧ Tree.mkS x.body.kids e1 e2 ∧ b = e2 := Iff.rfl
theorem Event.cnt_eq (x : Event) : x.cnt = 5 + x.body.names.length + Tree.cntS x.body.kids := rfl
theorem Event.mkS_snoc : ∀ (l : List Event) (x : Event) (a c b : Nat), Event.mkS l a c → x.mk_ c b → Event.mkS (l ++ [x]) a b
  | [], x, a, c, b, h, hx => by
    simp only [Event.mkS] at h
    subst h
    exact ⟨b, hx, rfl⟩
  | y :: r, x, a, c, b, h, hx => by
    obtain ⟨d, h1, h2⟩ := h
    exact ⟨d, h1, Event.mkS_snoc r x d c b h2 hx⟩
theorem Event.mkS_drop : ∀ (l : List Event) (b : Nat) (k : Nat) (h : k < l.length) (c : Nat), Event.mkS (l.drop k) c b → ∃ d, l[k].mk_ c d ∧ Event.mkS (l.drop (k + 1)) d b
  | x :: r, b, 0, _, c, h => by
    obtain ⟨d, h1, h2⟩ := h
    exact ⟨d, h1, h2⟩
  | x :: r, b, k + 1, hk, c, h => Event.mkS_drop r b k (by simpa using hk) c h
theorem Event.cntS_append (a b : List Event) : Event.cntS (a ++ b) = Event.cntS a + Event.cntS b := by
  induction a with
  | nil => simp [Event.cntS]
  | cons x a ih => simp [Event.cntS, ih]; omega
theorem Event.cntS_snoc (l : List Event) (k : Nat) (h : k < l.length) : Event.cntS (l.take (k + 1)) = Event.cntS (l.take k) + l[k].cnt := by
  rw [List.take_succ_eq_append_getElem h, Event.cntS_append]
  simp [Event.cntS]
theorem Event.cntS_le (l : List Event) (k : Nat) : Event.cntS (l.take k) ≤ Event.cntS l := by
  conv => rhs; rw [← List.take_append_drop k l, Event.cntS_append]
  omega
theorem Event.mk_le (x : Event) (a b : Nat) (h : x.mk_ a b) : a ≤ b := by
  obtain ⟨e1, e2, h0, h1, h2, h3, h4, h5, h6, hb⟩ := (x.mk_iff a b).1 h
  have q5 := h5.1
  have q6 := Tree.mkS_le _ _ _ h6
  omega
theorem Event.mkS_le : ∀ (l : List Event) (a b : Nat), Event.mkS l a b → a ≤ b
  | [], a, b, h => by simp only [Event.mkS] at h; omega
  | x :: r, a, b, h => by
    obtain ⟨c, h1, h2⟩ := h
    exact Nat.le_trans (x.mk_le _ _ h1) (Event.mkS_le r _ _ h2)

def MarkEventS (l : List Event) : Prop := ∀ (A : Option Addr) (n c : Nat) (fp : List Nat) (lo : Nat) (z : Int) (k0 : Nat) (w : World), z = k0 → Ow w (.s 7 l.length (l.flatMap Event.cells)) (.slice A n c) fp → New w fp lo → k0 + Event.cntS l ≤ 1099511627776 →
  Calls Try.prog 92 #[.slice A n c, .int .i64 z] w fun e w' => ∃ (l' : List Event), e = .returned (.int .i64 ((k0 + Event.cntS l : Nat) : Int)) ∧ l'.length = l.length ∧ Ow w' (.s 7 l'.length (l'.flatMap Event.cells)) (.slice A n c) fp ∧ Event.mkS l' k0 (k0 + Event.cntS l) ∧ Touch fp w w'
set_option maxRecDepth 100000 in
set_option maxHeartbeats 1000000 in
theorem markEventS_of (l : List Event) : MarkEventS l := by
  intro A n c fp lo z k0 w hz h hn hb
  subst hz
  obtain ⟨rfl, hc, hm⟩ := h.nlen
  unfold maxLen at hm
  go_enter Try.func92, Try.ntmps92
  go_wp2
  go_loopw [1, 5] (fun a i wr => (∃ (j : Nat) (lj : List Event), j ≤ l.length ∧ lj.length = l.length ∧ a = .int .i64 ((k0 + Event.cntS (l.take j) : Nat) : Int) ∧ i = .int .i64 (j : Nat) ∧ Ow wr (.s 7 lj.length (lj.flatMap Event.cells)) (.slice A l.length c) fp ∧ Event.mkS (lj.take j) k0 (k0 + Event.cntS (l.take j)) ∧ lj.drop j = l.drop j) ∧ Touch fp w wr) (fun _ i _ => l.length - (intOf i).toNat)
  case atStart => exact ⟨⟨0, l, Nat.zero_le _, rfl, by simp [Event.cntS], rfl, h, by simp [Event.cntS, Event.mkS], rfl⟩, Touch.refl _ _⟩
  case round =>
    obtain ⟨⟨j, lj, hj, hlj, rfl, rfl, hoj, hmj, hdj⟩, ht⟩ := hrel
    have HN := hide (ht.new hn)
    have HT := hide ht
    have HM := hide hmj
    have HL := hide hlj
    have HD := hide hdj
    clear hmj ht hdj
    by_cases hlt : j < l.length
    · have hltj : j < lj.length := by omega
      have hxe : lj[j] = l[j] := by
        have h1 : (lj.drop j)[0]? = (l.drop j)[0]? := by rw [HD.out]
        simpa [List.getElem?_drop, List.getElem?_eq_getElem hlt, List.getElem?_eq_getElem hltj] using h1
      have HS := hide (Event.cntS_snoc l j hlt)
      have hle := Event.cntS_le l (j + 1)
      obtain ⟨g, off, us, fi, rfl, hg, hfi, hgi, hnd, hul, hcs, hov, hput⟩ := hoj.upd Event.cells_len HN.out.nd hltj
      rw [hxe] at hov
      have HCN := hide (l[j].cnt_eq)
      clear hxe
      generalize hxx : l[j] = x at *
      have HXX := hide hxx
      clear hxx
      have hbb : k0 + Event.cntS (l.take j) + (5 + x.body.names.length + Tree.cntS x.body.kids) ≤ 1099511627776 := by have h1 := HS.out; have h2 := HCN.out; have h3 : Event.cntS l ≥ Event.cntS (l.take (j + 1)) := hle; omega
      obtain ⟨A1, c1, A2, c2, f1, f2, rfl, w0, w1, w2, w3, w4, o1, o2, rfl⟩ := hov.oEvent
      have p0 := hcs 0 _ rfl
      have p1 := hcs 1 _ rfl
      have p2 := hcs 2 _ rfl
      have p3 := hcs 3 _ rfl
      have p4 := hcs 4 _ rfl
      have p5 := hcs 5 _ rfl
      have p6 := hcs 6 _ rfl
      simp only [Nat.add_zero] at p0
      have hu := HN.out.uf g hg
      have hgl := HN.out.lt g hg
      have hfl : Lt (f1 ++ (f2)) wr.heap.size := HN.out.lt.sub hfi
      have q0 := unf_frozen hu (off + j * 7)
      have q1 := unf_frozen hu (off + j * 7 + 1)
      have q2 := unf_frozen hu (off + j * 7 + 2)
      have q3 := unf_frozen hu (off + j * 7 + 3)
      have q4 := unf_frozen hu (off + j * 7 + 4)
      have q5 := unf_frozen hu (off + j * 7 + 5)
      have q6 := unf_frozen hu (off + j * 7 + 6)
      have dj1 := (List.nodup_append.1 hnd).2.2
      have n1 := (List.nodup_append.1 hnd).1
      have gn1 : g ∉ f1 := fun hm => hgi (List.mem_append_left _ hm)
      have fl1 := hfl.left
      have n2 := (List.nodup_append.1 hnd).2.1
      have gn2 : g ∉ f2 := (fun hm => hgi (List.mem_append_right _ hm))
      have fl2 := hfl.right
      have sb1 : f1 ⊆ fp := fun b hb => hfi (List.mem_append_left _ hb)
      have nw1 : New wr f1 lo := ⟨fun b hb => HN.out.fr b (sb1 hb), n1, fun b hb => HN.out.uf b (sb1 hb)⟩
      have sb2 : f2 ⊆ fp := fun b hb => hfi (List.mem_append_right _ hb)
      have nw2 : New wr f2 lo := ⟨fun b hb => HN.out.fr b (sb2 hb), n2, fun b hb => HN.out.uf b (sb2 hb)⟩
      have HP := hide hput
      clear hcs hput hov hlj hoj
      have O1 := hide o1
      clear o1
      have O2 := hide o2
      clear o2
      have seg0 : Seg g (off + j * 7) (off + j * 7 + 7) [] wr wr := Seg.refl _ _ _ _ _
      go_wp2_with fail
      refine (markText_any _ (k0 + Event.cntS (l.take j)) (by omega) (by omega) _).mono ?_
      rintro e w1_ ⟨rfl, hb1⟩
      have t1 : Touch [] _ w1_ := Touch.below hb1
      have sg1 := seg0
      have hgl1 := Nat.lt_of_lt_of_le hgl sg1.size
      have p1_0 : w1_.cell? ⟨g, off + j * 7, none⟩ = some (.string x.type_) := (World.cell?_of_block (a := ⟨g, off + j * 7, none⟩) (t1.block g hgl1 (by simp))).trans (by go_simp <;> omega)
      have p1_1 : w1_.cell? ⟨g, off + j * 7 + 1, none⟩ = some (.int .i64 x.version) := (World.cell?_of_block (a := ⟨g, off + j * 7 + 1, none⟩) (t1.block g hgl1 (by simp))).trans (by go_simp <;> omega)
      have p1_2 : w1_.cell? ⟨g, off + j * 7 + 2, none⟩ = some (.int .i64 x.body.sort) := (World.cell?_of_block (a := ⟨g, off + j * 7 + 2, none⟩) (t1.block g hgl1 (by simp))).trans (by go_simp <;> omega)
      have p1_3 : w1_.cell? ⟨g, off + j * 7 + 3, none⟩ = some (.int .i64 x.body.num) := (World.cell?_of_block (a := ⟨g, off + j * 7 + 3, none⟩) (t1.block g hgl1 (by simp))).trans (by go_simp <;> omega)
      have p1_4 : w1_.cell? ⟨g, off + j * 7 + 4, none⟩ = some (.string x.body.text) := (World.cell?_of_block (a := ⟨g, off + j * 7 + 4, none⟩) (t1.block g hgl1 (by simp))).trans (by go_simp <;> omega)
      have p1_5 : w1_.cell? ⟨g, off + j * 7 + 5, none⟩ = some (.slice A1 x.body.names.length c1) := (World.cell?_of_block (a := ⟨g, off + j * 7 + 5, none⟩) (t1.block g hgl1 (by simp))).trans (by go_simp <;> omega)
      have p1_6 : w1_.cell? ⟨g, off + j * 7 + 6, none⟩ = some (.slice A2 x.body.kids.length c2) := (World.cell?_of_block (a := ⟨g, off + j * 7 + 6, none⟩) (t1.block g hgl1 (by simp))).trans (by go_simp <;> omega)
      have hu1 := t1.unf g (sg1.unf g hu)
      have q1_0 := unf_frozen hu1 (off + j * 7)
      have q1_1 := unf_frozen hu1 (off + j * 7 + 1)
      have q1_2 := unf_frozen hu1 (off + j * 7 + 2)
      have q1_3 := unf_frozen hu1 (off + j * 7 + 3)
      have q1_4 := unf_frozen hu1 (off + j * 7 + 4)
      have q1_5 := unf_frozen hu1 (off + j * 7 + 5)
      have q1_6 := unf_frozen hu1 (off + j * 7 + 6)
      have seg1 : Seg g (off + j * 7) (off + j * 7 + 7) ([]) wr w1_ := (Seg.mono sg1 (by intro b hb; first | (cases hb; done) | exact hb | (simp only [List.nil_append, List.append_assoc, List.mem_append, List.mem_cons, List.not_mem_nil, or_false, false_or] at hb ⊢; simp [hb]))).touch t1 (by intro b hb; first | (cases hb; done) | exact hb | (simp only [List.nil_append, List.append_assoc, List.mem_append, List.mem_cons, List.not_mem_nil, or_false, false_or] at hb ⊢; simp [hb])) (by simp) hgl1
      go_wp2_with fail
      refine (markText_any _ ((k0 + Event.cntS (l.take j)) + 4) (by omega) (by omega) _).mono ?_
      rintro e w2_ ⟨rfl, hb2⟩
      have t2 : Touch [] _ w2_ := Touch.below hb2
      have sg2 := ((((seg1.setCell (o := off + j * 7) (by omega) (by omega) (.string (mtext (k0 + Event.cntS (l.take j))))).setCell (o := off + j * 7 + 1) (by omega) (by omega) (.int .i64 ((((k0 + Event.cntS (l.take j)) + 1) : Nat) : Int))).setCell (o := off + j * 7 + 2) (by omega) (by omega) (.int .i64 ((((k0 + Event.cntS (l.take j)) + 2) : Nat) : Int))).setCell (o := off + j * 7 + 3) (by omega) (by omega) (.int .i64 ((((k0 + Event.cntS (l.take j)) + 3) : Nat) : Int)))
      have hgl2 := Nat.lt_of_lt_of_le hgl sg2.size
      have p2_0 : w2_.cell? ⟨g, off + j * 7, none⟩ = some (.string (mtext (k0 + Event.cntS (l.take j)))) := (World.cell?_of_block (a := ⟨g, off + j * 7, none⟩) (t2.block g hgl2 (by simp))).trans (by go_simp <;> omega)
      have p2_1 : w2_.cell? ⟨g, off + j * 7 + 1, none⟩ = some (.int .i64 ((((k0 + Event.cntS (l.take j)) + 1) : Nat) : Int)) := (World.cell?_of_block (a := ⟨g, off + j * 7 + 1, none⟩) (t2.block g hgl2 (by simp))).trans (by go_simp <;> omega)
      have p2_2 : w2_.cell? ⟨g, off + j * 7 + 2, none⟩ = some (.int .i64 ((((k0 + Event.cntS (l.take j)) + 2) : Nat) : Int)) := (World.cell?_of_block (a := ⟨g, off + j * 7 + 2, none⟩) (t2.block g hgl2 (by simp))).trans (by go_simp <;> omega)
      have p2_3 : w2_.cell? ⟨g, off + j * 7 + 3, none⟩ = some (.int .i64 ((((k0 + Event.cntS (l.take j)) + 3) : Nat) : Int)) := (World.cell?_of_block (a := ⟨g, off + j * 7 + 3, none⟩) (t2.block g hgl2 (by simp))).trans (by go_simp <;> omega)
      have p2_4 : w2_.cell? ⟨g, off + j * 7 + 4, none⟩ = some (.string x.body.text) := (World.cell?_of_block (a := ⟨g, off + j * 7 + 4, none⟩) (t2.block g hgl2 (by simp))).trans (by go_simp <;> omega)
      have p2_5 : w2_.cell? ⟨g, off + j * 7 + 5, none⟩ = some (.slice A1 x.body.names.length c1) := (World.cell?_of_block (a := ⟨g, off + j * 7 + 5, none⟩) (t2.block g hgl2 (by simp))).trans (by go_simp <;> omega)
      have p2_6 : w2_.cell? ⟨g, off + j * 7 + 6, none⟩ = some (.slice A2 x.body.kids.length c2) := (World.cell?_of_block (a := ⟨g, off + j * 7 + 6, none⟩) (t2.block g hgl2 (by simp))).trans (by go_simp <;> omega)
      have hu2 := t2.unf g (sg2.unf g hu)
      have q2_0 := unf_frozen hu2 (off + j * 7)
      have q2_1 := unf_frozen hu2 (off + j * 7 + 1)
      have q2_2 := unf_frozen hu2 (off + j * 7 + 2)
      have q2_3 := unf_frozen hu2 (off + j * 7 + 3)
      have q2_4 := unf_frozen hu2 (off + j * 7 + 4)
      have q2_5 := unf_frozen hu2 (off + j * 7 + 5)
      have q2_6 := unf_frozen hu2 (off + j * 7 + 6)
      have seg2 : Seg g (off + j * 7) (off + j * 7 + 7) ([]) wr w2_ := (Seg.mono sg2 (by intro b hb; first | (cases hb; done) | exact hb | (simp only [List.nil_append, List.append_assoc, List.mem_append, List.mem_cons, List.not_mem_nil, or_false, false_or] at hb ⊢; simp [hb]))).touch t2 (by intro b hb; first | (cases hb; done) | exact hb | (simp only [List.nil_append, List.append_assoc, List.mem_append, List.mem_cons, List.not_mem_nil, or_false, false_or] at hb ⊢; simp [hb])) (by simp) hgl2
      go_wp2_with fail
      have sg3 := (seg2.setCell (o := off + j * 7 + 4) (by omega) (by omega) (.string (mtext ((k0 + Event.cntS (l.take j)) + 4))))
      have OS1 := seg_read O1.out sg3 fl1 gn1 (fun b hb hm => by simp at hm)
      have NS1 := seg_new nw1 sg3
      refine (markStringS_any _ _ _ _ _ lo _ ((k0 + Event.cntS (l.take j)) + 5) _ (by omega) (OS1) (NS1) (by have := HCN.out; have := HS.out; omega)).mono ?_
      rintro e w3_ ⟨y1, rfl, yl1, yo1, ym1, t3⟩
      have YO1 := hide yo1
      have YL1 := hide yl1
      clear yo1 OS1
      have hgl3 := Nat.lt_of_lt_of_le hgl sg3.size
      have p3_0 : w3_.cell? ⟨g, off + j * 7, none⟩ = some (.string (mtext (k0 + Event.cntS (l.take j)))) := (World.cell?_of_block (a := ⟨g, off + j * 7, none⟩) (t3.block g hgl3 gn1)).trans (by go_simp <;> omega)
      have p3_1 : w3_.cell? ⟨g, off + j * 7 + 1, none⟩ = some (.int .i64 ((((k0 + Event.cntS (l.take j)) + 1) : Nat) : Int)) := (World.cell?_of_block (a := ⟨g, off + j * 7 + 1, none⟩) (t3.block g hgl3 gn1)).trans (by go_simp <;> omega)
      have p3_2 : w3_.cell? ⟨g, off + j * 7 + 2, none⟩ = some (.int .i64 ((((k0 + Event.cntS (l.take j)) + 2) : Nat) : Int)) := (World.cell?_of_block (a := ⟨g, off + j * 7 + 2, none⟩) (t3.block g hgl3 gn1)).trans (by go_simp <;> omega)
      have p3_3 : w3_.cell? ⟨g, off + j * 7 + 3, none⟩ = some (.int .i64 ((((k0 + Event.cntS (l.take j)) + 3) : Nat) : Int)) := (World.cell?_of_block (a := ⟨g, off + j * 7 + 3, none⟩) (t3.block g hgl3 gn1)).trans (by go_simp <;> omega)
      have p3_4 : w3_.cell? ⟨g, off + j * 7 + 4, none⟩ = some (.string (mtext ((k0 + Event.cntS (l.take j)) + 4))) := (World.cell?_of_block (a := ⟨g, off + j * 7 + 4, none⟩) (t3.block g hgl3 gn1)).trans (by go_simp <;> omega)
      have p3_5 : w3_.cell? ⟨g, off + j * 7 + 5, none⟩ = some (.slice A1 x.body.names.length c1) := (World.cell?_of_block (a := ⟨g, off + j * 7 + 5, none⟩) (t3.block g hgl3 gn1)).trans (by go_simp <;> omega)
      have p3_6 : w3_.cell? ⟨g, off + j * 7 + 6, none⟩ = some (.slice A2 x.body.kids.length c2) := (World.cell?_of_block (a := ⟨g, off + j * 7 + 6, none⟩) (t3.block g hgl3 gn1)).trans (by go_simp <;> omega)
      have hu3 := t3.unf g (sg3.unf g hu)
      have q3_0 := unf_frozen hu3 (off + j * 7)
      have q3_1 := unf_frozen hu3 (off + j * 7 + 1)
      have q3_2 := unf_frozen hu3 (off + j * 7 + 2)
      have q3_3 := unf_frozen hu3 (off + j * 7 + 3)
      have q3_4 := unf_frozen hu3 (off + j * 7 + 4)
      have q3_5 := unf_frozen hu3 (off + j * 7 + 5)
      have q3_6 := unf_frozen hu3 (off + j * 7 + 6)
      have seg3 : Seg g (off + j * 7) (off + j * 7 + 7) (f1) wr w3_ := (Seg.mono sg3 (by intro b hb; first | (cases hb; done) | exact hb | (simp only [List.nil_append, List.append_assoc, List.mem_append, List.mem_cons, List.not_mem_nil, or_false, false_or] at hb ⊢; simp [hb]))).touch t3 (by intro b hb; first | (cases hb; done) | exact hb | (simp only [List.nil_append, List.append_assoc, List.mem_append, List.mem_cons, List.not_mem_nil, or_false, false_or] at hb ⊢; simp [hb])) gn1 hgl3
      go_wp2_with fail
      have sg4 := seg3
      have OS2 := seg_read O2.out sg4 fl2 gn2 (fun b hb hm => by (try simp only [List.mem_append] at hm); rcases hm with hm <;> first | exact dj1 b hm b (by simp [hb]) rfl)
      have NS2 := seg_new nw2 sg4
      refine (markTreeS_any _ _ _ _ _ lo _ (((k0 + Event.cntS (l.take j)) + 5) + x.body.names.length) _ (by omega) (OS2) (NS2) (by have := HCN.out; have := HS.out; omega)).mono ?_
      rintro e w4_ ⟨y2, rfl, yl2, yo2, ym2, t4⟩
      have YO2 := hide yo2
      have YL2 := hide yl2
      clear yo2 OS2
      have hgl4 := Nat.lt_of_lt_of_le hgl sg4.size
      have p4_0 : w4_.cell? ⟨g, off + j * 7, none⟩ = some (.string (mtext (k0 + Event.cntS (l.take j)))) := (World.cell?_of_block (a := ⟨g, off + j * 7, none⟩) (t4.block g hgl4 gn2)).trans (by go_simp <;> omega)
      have p4_1 : w4_.cell? ⟨g, off + j * 7 + 1, none⟩ = some (.int .i64 ((((k0 + Event.cntS (l.take j)) + 1) : Nat) : Int)) := (World.cell?_of_block (a := ⟨g, off + j * 7 + 1, none⟩) (t4.block g hgl4 gn2)).trans (by go_simp <;> omega)
      have p4_2 : w4_.cell? ⟨g, off + j * 7 + 2, none⟩ = some (.int .i64 ((((k0 + Event.cntS (l.take j)) + 2) : Nat) : Int)) := (World.cell?_of_block (a := ⟨g, off + j * 7 + 2, none⟩) (t4.block g hgl4 gn2)).trans (by go_simp <;> omega)
      have p4_3 : w4_.cell? ⟨g, off + j * 7 + 3, none⟩ = some (.int .i64 ((((k0 + Event.cntS (l.take j)) + 3) : Nat) : Int)) := (World.cell?_of_block (a := ⟨g, off + j * 7 + 3, none⟩) (t4.block g hgl4 gn2)).trans (by go_simp <;> omega)
      have p4_4 : w4_.cell? ⟨g, off + j * 7 + 4, none⟩ = some (.string (mtext ((k0 + Event.cntS (l.take j)) + 4))) := (World.cell?_of_block (a := ⟨g, off + j * 7 + 4, none⟩) (t4.block g hgl4 gn2)).trans (by go_simp <;> omega)
      have p4_5 : w4_.cell? ⟨g, off + j * 7 + 5, none⟩ = some (.slice A1 x.body.names.length c1) := (World.cell?_of_block (a := ⟨g, off + j * 7 + 5, none⟩) (t4.block g hgl4 gn2)).trans (by go_simp <;> omega)
      have p4_6 : w4_.cell? ⟨g, off + j * 7 + 6, none⟩ = some (.slice A2 x.body.kids.length c2) := (World.cell?_of_block (a := ⟨g, off + j * 7 + 6, none⟩) (t4.block g hgl4 gn2)).trans (by go_simp <;> omega)
      have hu4 := t4.unf g (sg4.unf g hu)
      have q4_0 := unf_frozen hu4 (off + j * 7)
      have q4_1 := unf_frozen hu4 (off + j * 7 + 1)
      have q4_2 := unf_frozen hu4 (off + j * 7 + 2)
      have q4_3 := unf_frozen hu4 (off + j * 7 + 3)
      have q4_4 := unf_frozen hu4 (off + j * 7 + 4)
      have q4_5 := unf_frozen hu4 (off + j * 7 + 5)
      have q4_6 := unf_frozen hu4 (off + j * 7 + 6)
      have YO1 := hide (Ow.touch YO1.out t4 (fun b hb => Nat.lt_of_lt_of_le (fl1 b hb) sg4.size) (fun b hb hm => dj1 b hb b (by simp [hm]) rfl))
      have seg4 : Seg g (off + j * 7) (off + j * 7 + 7) (f1 ++ (f2)) wr w4_ := (Seg.mono sg4 (by intro b hb; first | (cases hb; done) | exact hb | (simp only [List.nil_append, List.append_assoc, List.mem_append, List.mem_cons, List.not_mem_nil, or_false, false_or] at hb ⊢; simp [hb]))).touch t4 (by intro b hb; first | (cases hb; done) | exact hb | (simp only [List.nil_append, List.append_assoc, List.mem_append, List.mem_cons, List.not_mem_nil, or_false, false_or] at hb ⊢; simp [hb])) gn2 hgl4
      go_wp2
      go_roundw
      case rel =>
        have hseg := Seg.mono (fj := f1 ++ (f2)) seg4 (by intro b hb; first | (cases hb; done) | exact hb | (simp only [List.nil_append, List.append_assoc, List.mem_append, List.mem_cons, List.not_mem_nil, or_false, false_or] at hb ⊢; simp [hb]))
        have hnew := HP.out _ (Event.mk (mtext (k0 + Event.cntS (l.take j))) (((((k0 + Event.cntS (l.take j)) + 1) : Nat) : Int)) (Tree.mk (((((k0 + Event.cntS (l.take j)) + 2) : Nat) : Int)) (((((k0 + Event.cntS (l.take j)) + 3) : Nat) : Int)) (mtext ((k0 + Event.cntS (l.take j)) + 4)) y1 y2)) [.string (mtext (k0 + Event.cntS (l.take j))), .int .i64 ((((k0 + Event.cntS (l.take j)) + 1) : Nat) : Int), .int .i64 ((((k0 + Event.cntS (l.take j)) + 2) : Nat) : Int), .int .i64 ((((k0 + Event.cntS (l.take j)) + 3) : Nat) : Int), .string (mtext ((k0 + Event.cntS (l.take j)) + 4)), .slice A1 x.body.names.length c1, .slice A2 x.body.kids.length c2] (by
          have h := OwC.mEvent (w := w4_) (x := (Event.mk (mtext (k0 + Event.cntS (l.take j))) (((((k0 + Event.cntS (l.take j)) + 1) : Nat) : Int)) (Tree.mk (((((k0 + Event.cntS (l.take j)) + 2) : Nat) : Int)) (((((k0 + Event.cntS (l.take j)) + 3) : Nat) : Int)) (mtext ((k0 + Event.cntS (l.take j)) + 4)) y1 y2))) (mtext_size (k0 + Event.cntS (l.take j)) (by have := HCN.out; have := HS.out; omega)) (by show (Lit.int .i64 ((((k0 + Event.cntS (l.take j)) + 1) : Nat) : Int)).wf = true; exact WalkArith.wf_i64 (by have := HCN.out; have := HS.out; omega)) (by show (Lit.int .i64 ((((k0 + Event.cntS (l.take j)) + 2) : Nat) : Int)).wf = true; exact WalkArith.wf_i64 (by have := HCN.out; have := HS.out; omega)) (by show (Lit.int .i64 ((((k0 + Event.cntS (l.take j)) + 3) : Nat) : Int)).wf = true; exact WalkArith.wf_i64 (by have := HCN.out; have := HS.out; omega)) (mtext_size ((k0 + Event.cntS (l.take j)) + 4) (by have := HCN.out; have := HS.out; omega)) (by have h := YO1.out; first | exact h | (rw [YL1.out]; exact h) | simpa [YL1.out] using h) (by have h := YO2.out; first | exact h | (rw [YL2.out]; exact h) | simpa [YL2.out] using h)
          first | exact h | simpa using h) (fun i u hi => by
          match i, hi with
          | 0, hi => simp at hi; subst hi; go_simp
          | 1, hi => simp at hi; subst hi; go_simp
          | 2, hi => simp at hi; subst hi; go_simp
          | 3, hi => simp at hi; subst hi; go_simp
          | 4, hi => simp at hi; subst hi; go_simp
          | 5, hi => simp at hi; subst hi; go_simp
          | 6, hi => simp at hi; subst hi; go_simp) hseg HN.out.lt
        refine ⟨⟨j + 1, lj.set j (Event.mk (mtext (k0 + Event.cntS (l.take j))) (((((k0 + Event.cntS (l.take j)) + 1) : Nat) : Int)) (Tree.mk (((((k0 + Event.cntS (l.take j)) + 2) : Nat) : Int)) (((((k0 + Event.cntS (l.take j)) + 3) : Nat) : Int)) (mtext ((k0 + Event.cntS (l.take j)) + 4)) y1 y2)), by omega, by simpa using HL.out, by rw [HS.out, HCN.out]; go_num, by go_num, by rw [List.length_set]; exact hnew, ?_, ?_⟩, HT.out.trans (hseg.to_touch hg hfi)⟩
        · rw [take_set_succ lj j _ (by have := HL.out; omega), HS.out]
          refine Event.mkS_snoc _ _ _ _ _ HM.out ((Event.mk_iff _ _ _).2 ?_)
          exact ⟨(((k0 + Event.cntS (l.take j)) + 5) + x.body.names.length), ((((k0 + Event.cntS (l.take j)) + 5) + x.body.names.length) + Tree.cntS x.body.kids), rfl, rfl, rfl, rfl, rfl, ym1, ym2, by rw [HCN.out]; simp only [Nat.add_assoc]; try omega⟩
        · rw [drop_set_succ]
          have h := congrArg (List.drop 1) HD.out
          simpa [List.drop_drop, Nat.add_comm] using h
      case measure => simp [intOf]; omega
    · obtain rfl : j = l.length := by omega
      have HO := hide hoj
      clear hoj hlj
      go_wp2
      go_ret
      have e1 : lj.take l.length = lj := List.take_of_length_le (by have := HL.out; omega)
      have e2 : l.take l.length = l := List.take_length
      have hmm := HM.out
      try rw [e1] at hmm
      try rw [e2] at hmm
      exact ⟨lj, (by first | exact rfl | (rw [e2]; exact rfl)), HL.out, HO.out, hmm, HT.out⟩
theorem markEventS_any (l : List Event) : MarkEventS l := markEventS_of l
def HeldEventS (l : List Event) : Prop := ∀ (A : Option Addr) (n c : Nat) (fp : List Nat) (z : Int) (a b : Nat) (w : World), z = a → Ow w (.s 7 l.length (l.flatMap Event.cells)) (.slice A n c) fp → Lt fp w.heap.size → Event.mkS l a b → b ≤ 1099511627776 →
  Calls Try.prog 93 #[.slice A n c, .int .i64 z] w fun e w' => e = .returned (.int .i64 (b : Nat)) ∧ Below w.heap.size w w'
set_option maxRecDepth 100000 in
set_option maxHeartbeats 1000000 in
theorem heldEventS_of (l : List Event) : HeldEventS l := by
  intro A n c fp z a b w hz h hf hmk hbb
  subst hz
  obtain ⟨rfl, hc, hm⟩ := h.nlen
  unfold maxLen at hm
  have HMK := hide hmk
  have hab := Event.mkS_le _ _ _ hmk
  clear hmk
  go_enter Try.func93, Try.ntmps93
  go_wp2
  go_loopw [1, 5] (fun u i wr => (∃ (j d : Nat), j ≤ l.length ∧ u = .int .i64 (d : Nat) ∧ i = .int .i64 (j : Nat) ∧ Event.mkS (l.drop j) d b) ∧ Below w.heap.size w wr) (fun _ i _ => l.length - (intOf i).toNat)
  case atStart => exact ⟨⟨0, a, Nat.zero_le _, rfl, rfl, HMK.out⟩, Below.refl _ _⟩
  case round =>
    obtain ⟨⟨j, d, hj, rfl, rfl, hmj⟩, hbel⟩ := hrel
    have HB := hide hbel
    have HJ := hide hmj
    have hdb := Event.mkS_le _ _ _ hmj
    clear hmj
    by_cases hlt : j < l.length
    · obtain ⟨g, off, us, fi, rfl, hg, hfi, hul, hcs, ho⟩ := (h.below HB.out hf).elem Event.cells_len hlt
      obtain ⟨d2, hmx, hmr⟩ := Event.mkS_drop l b j hlt d HJ.out
      have HR := hide hmr
      have hd2 := Event.mkS_le _ _ _ hmr
      clear hmr
      have hgl : g < wr.heap.size := (hf.up HB.out) g hg
      have hfl := (hf.up HB.out).sub hfi
      generalize l[j] = x at *
      obtain ⟨A1, c1, A2, c2, f1, f2, rfl, w0, w1, w2, w3, w4, o1, o2, rfl⟩ := ho.oEvent
      obtain ⟨e1, e2, m0, m1, m2, m3, m4, m5, m6, hd2e⟩ := (x.mk_iff _ _).1 hmx
      have HD := hide hd2e
      clear hd2e hmx
      have p0 := hcs 0 _ rfl
      have p1 := hcs 1 _ rfl
      have p2 := hcs 2 _ rfl
      have p3 := hcs 3 _ rfl
      have p4 := hcs 4 _ rfl
      have p5 := hcs 5 _ rfl
      have p6 := hcs 6 _ rfl
      simp only [Nat.add_zero] at p0
      rw [m0] at p0
      rw [m1] at p1
      rw [m2] at p2
      rw [m3] at p3
      rw [m4] at p4
      have b5 := m5.1
      have b6 := Tree.mkS_le _ _ _ m6
      have hbd : d2 ≤ 1099511627776 := by omega
      have M5 := hide m5
      have M6 := hide m6
      have x_e1 : e1 ≤ d2 := by have := HD.out; omega
      have x_e2 : e2 ≤ d2 := by have := HD.out; omega
      have z0 : d + 1 ≤ d2 := by have := HD.out; omega
      have z1 : d + 2 ≤ d2 := by have := HD.out; omega
      have z2 : d + 3 ≤ d2 := by have := HD.out; omega
      have z3 : d + 4 ≤ d2 := by have := HD.out; omega
      have z4 : d + 5 ≤ d2 := by have := HD.out; omega
      have hend : e2 ≤ d2 := by have := HD.out; omega
      have HBS := hide (And.intro trivial (And.intro trivial trivial) : True ∧ True ∧ True)
      clear b5
      clear m0 m1 m2 m3 m4 m5 m6 hcs ho
      have O1 := hide o1
      clear o1
      have O2 := hide o2
      clear o2
      have fl1 := hfl.left
      have fl2 := hfl.right
      have B0 := hide (Below.refl wr.heap.size wr)
      go_wp2
      go_region_held3 (fun u => u.cell? ⟨g, off + j * 7, none⟩ = some (.string (mtext d))) (first | go_keep | exact (hb1.cell (p := ⟨g, off + j * 7, none⟩) (by first | exact hgl | exact hgl0)).trans (by go_simp <;> omega))
        (first | (go_at_call 176; refine (markText_any _ d (by omega) (by omega) _).mono ?_; rintro e w1_ ⟨rfl, hb1⟩))
      have hb1 : Below wr.heap.size wr w1_ := ⟨hb1.os, hb1.tape, hb1.output, hb1.size, hb1.block⟩
      have B1 := hide (B0.out.trans (hb1.mono B0.out.size))
      have hgl1 := Nat.lt_of_lt_of_le hgl B1.out.size
      have p1_1 := (B1.out.cell (p := ⟨g, off + j * 7 + 1, none⟩) hgl).trans p1
      have p1_2 := (B1.out.cell (p := ⟨g, off + j * 7 + 2, none⟩) hgl).trans p2
      have p1_3 := (B1.out.cell (p := ⟨g, off + j * 7 + 3, none⟩) hgl).trans p3
      have p1_4 := (B1.out.cell (p := ⟨g, off + j * 7 + 4, none⟩) hgl).trans p4
      have p1_5 := (B1.out.cell (p := ⟨g, off + j * 7 + 5, none⟩) hgl).trans p5
      have p1_6 := (B1.out.cell (p := ⟨g, off + j * 7 + 6, none⟩) hgl).trans p6
      go_wp2
      go_region_held3 (fun u => u.cell? ⟨g, off + j * 7 + 4, none⟩ = some (.string (mtext (d + 4)))) (first | go_keep | exact (hb2.cell (p := ⟨g, off + j * 7 + 4, none⟩) (by first | exact hgl | exact hgl1)).trans (by go_simp <;> omega))
        (first | (go_at_call 176; refine (markText_any _ (d + 4) (by omega) (by omega) _).mono ?_; rintro e w2_ ⟨rfl, hb2⟩))
      have hb2 : Below w1_.heap.size w1_ w2_ := ⟨hb2.os, hb2.tape, hb2.output, hb2.size, hb2.block⟩
      have B2 := hide (B1.out.trans (hb2.mono B1.out.size))
      have hgl2 := Nat.lt_of_lt_of_le hgl B2.out.size
      have p2_5 := (B2.out.cell (p := ⟨g, off + j * 7 + 5, none⟩) hgl).trans p5
      have p2_6 := (B2.out.cell (p := ⟨g, off + j * 7 + 6, none⟩) hgl).trans p6
      go_wp2_with fail
      refine (heldStringS_any _ _ _ _ _ _ (d + 5) e1 _ (by omega) (O1.out.below B2.out fl1) (fl1.up B2.out) M5.out (by omega)).mono ?_
      rintro e w3_ ⟨rfl, hb3⟩
      have B3 := hide (B2.out.trans (hb3.mono B2.out.size))
      have hgl3 := Nat.lt_of_lt_of_le hgl B3.out.size
      have p3_6 := (B3.out.cell (p := ⟨g, off + j * 7 + 6, none⟩) hgl).trans p6
      go_wp2_with fail
      refine (heldTreeS_any _ _ _ _ _ _ e1 e2 _ (by omega) (O2.out.below B3.out fl2) (fl2.up B3.out) M6.out (by omega)).mono ?_
      rintro e w4_ ⟨rfl, hb4⟩
      have B4 := hide (B3.out.trans (hb4.mono B3.out.size))
      have hgl4 := Nat.lt_of_lt_of_le hgl B4.out.size
      go_wp2
      go_roundw
      case rel => exact ⟨⟨j + 1, d2, by omega, by (rw [HD.out]; try go_num), by go_num, HR.out⟩, HB.out.trans (B4.out.mono HB.out.size)⟩
      case measure => simp [intOf]; omega
    · obtain rfl : j = l.length := by omega
      have e := HJ.out
      rw [List.drop_length] at e
      simp only [Event.mkS] at e
      subst e
      clear HJ
      go_wp2
      go_ret
      exact ⟨rfl, HB.out⟩
theorem heldEventS_any (l : List Event) : HeldEventS l := heldEventS_of l
end Go.Proofs.Ytbjblchhenmgjaa
namespace Go.Proofs.Ytbjblchhenmgjaa
open Go.ChangeShapes Go.WideShapes Go.ChangeAt Go.RowKit
def Record.mkTop (x : Record) (a b : Nat) : Prop := Event.mkS x.events a b
def Record.cntTop (x : Record) : Nat := Event.cntS x.events
theorem Record.cntTop_eq (x : Record) : x.cntTop = Event.cntS x.events := rfl
set_option maxRecDepth 100000 in
set_option maxHeartbeats 1000000 in
theorem markRecord_any (x : Record) (us : List Value) (fp : List Nat) (lo : Nat) (z : Int) (k0 : Nat) (w : World) (hz : z = k0) (ho : OwC w x.cells us fp) (hn : New w fp lo) (hb : k0 + x.cntTop ≤ 1099511627776) :
    Calls Try.prog 26 #[.agg us.toArray, .int .i64 z] w fun e w' => ∃ (x' : Record), e = .returned (.int .i64 ((k0 + x.cntTop : Nat) : Int)) ∧ OwC w' x'.cells us fp ∧ x'.mkTop k0 (k0 + x.cntTop) ∧ Touch fp w w' := by
  subst hz
  have hc := x.cntTop_eq
  obtain ⟨A1, c1, f1, rfl, w0, w1, o1, rfl⟩ := ho.oRecord
  have hw0 : Below w.heap.size w (w.alloc (.cells #[.int .i64 x.pos, .string x.key, .slice A1 x.events.length c1] 39)) := (Below.refl _ _).alloc (Nat.le_refl _) _
  have R0 : Row (w.alloc (.cells #[.int .i64 x.pos, .string x.key, .slice A1 x.events.length c1] 39)) w.heap.size 39 [.int .i64 x.pos, .string x.key, .slice A1 x.events.length c1] := Row.new w _ _
  have n1 := hn
  have O1 := hide (o1.below hw0 n1.lt)
  have N1 := hide (n1.alloc (.cells #[.int .i64 x.pos, .string x.key, .slice A1 x.events.length c1] 39))
  have nb1 : w.heap.size ∉ fp := fun h => Nat.lt_irrefl _ (n1.lt _ h)
  clear ho o1 hn
  have T0 := hide (Touch.below (fp := fp) hw0)
  go_enter Try.func26, Try.ntmps26
  go_wp2_with fail
  refine (markEventS_any x.events _ _ _ fp lo _ (k0) _ (by omega) O1.out N1.out (by omega)).mono ?_
  rintro e w1_ ⟨y1, rfl, yl1, yo1, ym1, t1⟩
  have T1 := hide (T0.out.trans (t1.mono (by intro g hg; simp [hg])))
  have YO1 := hide yo1
  have YM1 := hide ym1
  have YL1 := hide yl1
  clear yo1 ym1 yl1
  have R1 : Row w1_ w.heap.size 39 [.int .i64 x.pos, .string x.key, .slice A1 x.events.length c1] := (t1.block _ R0.lt nb1).trans R0
  have M1 := hide (t1.new N1.out)
  clear t1
  have lt1 := R1.lt
  go_wp2
  go_ret
  refine ⟨(Record.mk x.pos x.key y1), ret_int (by omega), OwC.mRecord w0 w1 YO1.out, ?_, ?_⟩
  · skip
    have h := YM1.out
    rw [hc]
    (try simp only [Nat.add_assoc] at h)
    (try simp only [Nat.add_assoc])
    exact h
  · exact T1.out
set_option maxRecDepth 100000 in
set_option maxHeartbeats 1000000 in
theorem heldRecord_any (x : Record) (us : List Value) (fp : List Nat) (z : Int) (a b : Nat) (w : World) (hz : z = a) (ho : OwC w x.cells us fp) (hf : Lt fp w.heap.size) (hmk : x.mkTop a b) (hb : b ≤ 1099511627776) :
    Calls Try.prog 27 #[.agg us.toArray, .int .i64 z] w fun e w' => e = .returned (.int .i64 (b : Nat)) ∧ Below w.heap.size w w' := by
  subst hz
  obtain ⟨A1, c1, f1, rfl, w0, w1, o1, rfl⟩ := ho.oRecord
  have m1 := hmk
  have hw0 : Below w.heap.size w (w.alloc (.cells #[.int .i64 x.pos, .string x.key, .slice A1 x.events.length c1] 39)) := (Below.refl _ _).alloc (Nat.le_refl _) _
  have R0 : Row (w.alloc (.cells #[.int .i64 x.pos, .string x.key, .slice A1 x.events.length c1] 39)) w.heap.size 39 [.int .i64 x.pos, .string x.key, .slice A1 x.events.length c1] := Row.new w _ _
  have fl1 := hf
  have le1 := Event.mkS_le _ _ _ m1
  have O1 := hide o1
  have HM1 := hide m1
  have B0 := hide hw0
  clear ho hf hw0 o1 m1
  go_enter Try.func27, Try.ntmps27
  go_wp2_with fail
  refine (heldEventS_any x.events _ _ _ fp _ a b _ (by omega) (O1.out.below B0.out fl1) (fl1.up B0.out) HM1.out (by omega)).mono ?_
  rintro e w1_ ⟨rfl, hb1⟩
  have B1 := hide (B0.out.trans (hb1.mono B0.out.size))
  have R1 := R0.below hb1 R0.lt
  have lt1 := R1.lt
  clear hb1
  go_wp2
  go_ret
  exact ⟨rfl, B1.out⟩
end Go.Proofs.Ytbjblchhenmgjaa
namespace Go.Proofs.Ytbjblchhenmgjaa
open Go.ChangeShapes Go.WideShapes Go.ChangeAt Go.RowKit

theorem Event.ok_cnt {e : Event} (h : e.ok) : e.cnt ≤ 30000 := by
  have h1 := pEvent_bulk (pEvent_back true e h)
  have h2 := Event.bytes_len h
  have h3 := e.body.cntTop_le
  have h4 : e.bulk = e.type_.size + e.body.bulk := rfl
  have h5 := e.cnt_eq
  have h6 := e.body.cntTop_eq
  omega
theorem Event.okS_cnt : ∀ (l : List Event), (∀ e ∈ l, e.ok) → Event.cntS l ≤ 30000 * l.length
  | [], _ => by simp [Event.cntS]
  | e :: l, h => by
    have h1 := Event.ok_cnt (h e (by simp))
    have h2 := Event.okS_cnt l (fun x hx => h x (by simp [hx]))
    simp only [Event.cntS, List.length_cons]
    omega
theorem unrecR_cnt (p : Int) (s : ByteArray) : (unrecR p s).cntTop ≤ 1200000 := by
  by_cases h : ∃ x, Record.from p s x
  · obtain ⟨x, hx⟩ := h
    rw [(unrec_yes hx).1, Record.cntTop_eq]
    have h1 := hx.1.1.2.2.1
    have h2 := Event.okS_cnt x.events (fun e he => by
      obtain ⟨i, hi, rfl⟩ := List.getElem_of_mem he
      exact hx.1.1.2.2.2 i hi)
    omega
  · rw [(unrec_no (fun x hx => h ⟨x, hx⟩)).1, Record.cntTop_eq]
    exact Nat.zero_le _
end Go.Proofs.Ytbjblchhenmgjaa
