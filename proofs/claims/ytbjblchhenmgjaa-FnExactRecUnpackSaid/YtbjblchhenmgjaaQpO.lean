/-
  Tree: what the laws' marks write, and that they are found again. The laws' marks at a Tree by value: only its slices are marked. The laws' marks at an Event by value.
-/
import Derived.Test.YtbjblchhenmgjaaQpA
import Derived.Test.YtbjblchhenmgjaaQpN
import Derived.Test.YtbjblchhenmgjaaQpG
set_option linter.unusedVariables false
set_option linter.unusedSimpArgs false
namespace Go.Proofs.Ytbjblchhenmgjaa
open Go.ChangeShapes Go.WideShapes Go.ChangeAt Go.RowKit

mutual
def Tree.mk_ : Tree → Nat → Nat → Prop
  | .mk sort num text names kids, a, b => ∃ e1 e2 : Nat, sort = ((a : Nat) : Int) ∧ num = (((a + 1) : Nat) : Int) ∧ text = mtext (a + 2) ∧ MkStringS names (a + 3) e1 ∧ Tree.mkS kids e1 e2 ∧ b = e2
def Tree.mkS : List Tree → Nat → Nat → Prop
  | [], a, b => a = b
  | x :: r, a, b => ∃ c, x.mk_ a c ∧ Tree.mkS r c b
end
mutual
def Tree.cnt : Tree → Nat
  | .mk sort num text names kids => 3 + names.length + Tree.cntS kids
def Tree.cntS : List Tree → Nat
  | [] => 0
  | x :: r => x.cnt + Tree.cntS r
end
theorem Tree.mk_iff (x : Tree) (a b : Nat) : x.mk_ a b ↔ ∃ e1 e2 : Nat, x.sort = ((a : Nat) : Int) ∧ x.num = (((a + 1) : Nat) : Int) ∧ x.text = mtext (a + 2) ∧ MkStringS x.names (a + 3) e1 ∧ Tree.mkS x.kids e1 e2 ∧ b = e2 := by cases x; rfl
theorem Tree.cnt_eq (x : Tree) : x.cnt = 3 + x.names.length + Tree.cntS x.kids := by cases x; rfl
theorem Tree.mkS_snoc : ∀ (l : List Tree) (x : Tree) (a c b : Nat), Tree.mkS l a c → x.mk_ c b → Tree.mkS (l ++ [x]) a b
  | [], x, a, c, b, h, hx => by
    simp only [Tree.mkS] at h
    subst h
    exact ⟨b, hx, rfl⟩
  | y :: r, x, a, c, b, h, hx => by
    obtain ⟨d, h1, h2⟩ := h
    exact ⟨d, h1, Tree.mkS_snoc r x d c b h2 hx⟩
theorem Tree.mkS_drop : ∀ (l : List Tree) (b : Nat) (k : Nat) (h : k < l.length) (c : Nat), Tree.mkS (l.drop k) c b → ∃ d, l[k].mk_ c d ∧ Tree.mkS (l.drop (k + 1)) d b
  | x :: r, b, 0, _, c, h => by
    obtain ⟨d, h1, h2⟩ := h
    exact ⟨d, h1, h2⟩
  | x :: r, b, k + 1, hk, c, h => Tree.mkS_drop r b k (by simpa using hk) c h
theorem Tree.cntS_append (a b : List Tree) : Tree.cntS (a ++ b) = Tree.cntS a + Tree.cntS b := by
  induction a with
  | nil => simp [Tree.cntS]
  | cons x a ih => simp [Tree.cntS, ih]; omega
theorem Tree.cntS_snoc (l : List Tree) (k : Nat) (h : k < l.length) : Tree.cntS (l.take (k + 1)) = Tree.cntS (l.take k) + l[k].cnt := by
  rw [List.take_succ_eq_append_getElem h, Tree.cntS_append]
  simp [Tree.cntS]
theorem Tree.cntS_le (l : List Tree) (k : Nat) : Tree.cntS (l.take k) ≤ Tree.cntS l := by
  conv => rhs; rw [← List.take_append_drop k l, Tree.cntS_append]
  omega
theorem Tree.mkS_le_of (l : List Tree) (ih : ∀ x ∈ l, ∀ a b, x.mk_ a b → a ≤ b) : ∀ a b, Tree.mkS l a b → a ≤ b := by
  induction l with
  | nil => intro a b h; simp only [Tree.mkS] at h; omega
  | cons x l ihl => intro a b h; obtain ⟨c, h1, h2⟩ := h; exact Nat.le_trans (ih x (by simp) _ _ h1) (ihl (fun y hy => ih y (by simp [hy])) _ _ h2)
theorem Tree.mk_le (x : Tree) : ∀ a b, x.mk_ a b → a ≤ b := by
  refine Tree.ind (P := fun x => ∀ a b, x.mk_ a b → a ≤ b) (fun x ihx => ?_) x
  intro a b h
  have ih := Tree.mkS_le_of x.kids ihx
  obtain ⟨e1, e2, h0, h1, h2, h3, h4, hb⟩ := (x.mk_iff a b).1 h
  have q3 := h3.1
  have q4 := ih _ _ h4
  omega
theorem Tree.mkS_le (l : List Tree) : ∀ a b, Tree.mkS l a b → a ≤ b := Tree.mkS_le_of l fun x _ => x.mk_le

def MarkTreeS (l : List Tree) : Prop := ∀ (A : Option Addr) (n c : Nat) (fp : List Nat) (lo : Nat) (z : Int) (k0 : Nat) (w : World), z = k0 → Ow w (.s 5 l.length (l.flatMap Tree.cells)) (.slice A n c) fp → New w fp lo → k0 + Tree.cntS l ≤ 1099511627776 →
  Calls Try.prog 170 #[.slice A n c, .int .i64 z] w fun e w' => ∃ (l' : List Tree), e = .returned (.int .i64 ((k0 + Tree.cntS l : Nat) : Int)) ∧ l'.length = l.length ∧ Ow w' (.s 5 l'.length (l'.flatMap Tree.cells)) (.slice A n c) fp ∧ Tree.mkS l' k0 (k0 + Tree.cntS l) ∧ Touch fp w w'
set_option maxRecDepth 100000 in
set_option maxHeartbeats 1000000 in
theorem markTreeS_of (l : List Tree) (ih : ∀ x ∈ l, MarkTreeS x.kids) : MarkTreeS l := by
  intro A n c fp lo z k0 w hz h hn hb
  subst hz
  obtain ⟨rfl, hc, hm⟩ := h.nlen
  unfold maxLen at hm
  go_enter Try.func170, Try.ntmps170
  go_wp2
  go_loopw [1, 5] (fun a i wr => (∃ (j : Nat) (lj : List Tree), j ≤ l.length ∧ lj.length = l.length ∧ a = .int .i64 ((k0 + Tree.cntS (l.take j) : Nat) : Int) ∧ i = .int .i64 (j : Nat) ∧ Ow wr (.s 5 lj.length (lj.flatMap Tree.cells)) (.slice A l.length c) fp ∧ Tree.mkS (lj.take j) k0 (k0 + Tree.cntS (l.take j)) ∧ lj.drop j = l.drop j) ∧ Touch fp w wr) (fun _ i _ => l.length - (intOf i).toNat)
  case atStart => exact ⟨⟨0, l, Nat.zero_le _, rfl, by simp [Tree.cntS], rfl, h, by simp [Tree.cntS, Tree.mkS], rfl⟩, Touch.refl _ _⟩
  case round =>
    obtain ⟨⟨j, lj, hj, hlj, rfl, rfl, hoj, hmj, hdj⟩, ht⟩ := hrel
    have HN := hide (ht.new hn)
    have HT := hide ht
    have HM := hide hmj
    have HL := hide hlj
    have HD := hide hdj
    clear hmj ht hdj
    by_cases hlt : j < l.length
    · have hltj : j < lj.length := by omega
      have hxe : lj[j] = l[j] := by
        have h1 : (lj.drop j)[0]? = (l.drop j)[0]? := by rw [HD.out]
        simpa [List.getElem?_drop, List.getElem?_eq_getElem hlt, List.getElem?_eq_getElem hltj] using h1
      have HS := hide (Tree.cntS_snoc l j hlt)
      have hle := Tree.cntS_le l (j + 1)
      obtain ⟨g, off, us, fi, rfl, hg, hfi, hgi, hnd, hul, hcs, hov, hput⟩ := hoj.upd Tree.cells_len HN.out.nd hltj
      rw [hxe] at hov
      have HC := hide (ih _ (List.getElem_mem hlt))
      have HCN := hide (l[j].cnt_eq)
      clear hxe
      generalize hxx : l[j] = x at *
      have HXX := hide hxx
      clear hxx
      have hbb : k0 + Tree.cntS (l.take j) + (3 + x.names.length + Tree.cntS x.kids) ≤ 1099511627776 := by have h1 := HS.out; have h2 := HCN.out; have h3 : Tree.cntS l ≥ Tree.cntS (l.take (j + 1)) := hle; omega
      obtain ⟨A1, c1, A2, c2, f1, f2, rfl, w0, w1, w2, o1, o2, rfl⟩ := hov.oTree
      have p0 := hcs 0 _ rfl
      have p1 := hcs 1 _ rfl
      have p2 := hcs 2 _ rfl
      have p3 := hcs 3 _ rfl
      have p4 := hcs 4 _ rfl
      simp only [Nat.add_zero] at p0
      have hu := HN.out.uf g hg
      have hgl := HN.out.lt g hg
      have hfl : Lt (f1 ++ (f2)) wr.heap.size := HN.out.lt.sub hfi
      have q0 := unf_frozen hu (off + j * 5)
      have q1 := unf_frozen hu (off + j * 5 + 1)
      have q2 := unf_frozen hu (off + j * 5 + 2)
      have q3 := unf_frozen hu (off + j * 5 + 3)
      have q4 := unf_frozen hu (off + j * 5 + 4)
      have dj1 := (List.nodup_append.1 hnd).2.2
      have n1 := (List.nodup_append.1 hnd).1
      have gn1 : g ∉ f1 := fun hm => hgi (List.mem_append_left _ hm)
      have fl1 := hfl.left
      have n2 := (List.nodup_append.1 hnd).2.1
      have gn2 : g ∉ f2 := (fun hm => hgi (List.mem_append_right _ hm))
      have fl2 := hfl.right
      have sb1 : f1 ⊆ fp := fun b hb => hfi (List.mem_append_left _ hb)
      have nw1 : New wr f1 lo := ⟨fun b hb => HN.out.fr b (sb1 hb), n1, fun b hb => HN.out.uf b (sb1 hb)⟩
      have sb2 : f2 ⊆ fp := fun b hb => hfi (List.mem_append_right _ hb)
      have nw2 : New wr f2 lo := ⟨fun b hb => HN.out.fr b (sb2 hb), n2, fun b hb => HN.out.uf b (sb2 hb)⟩
      have HP := hide hput
      clear hcs hput hov hlj hoj
      have O1 := hide o1
      clear o1
      have O2 := hide o2
      clear o2
      have seg0 : Seg g (off + j * 5) (off + j * 5 + 5) [] wr wr := Seg.refl _ _ _ _ _
      go_wp2_with fail
      refine (markText_any _ ((k0 + Tree.cntS (l.take j)) + 2) (by omega) (by omega) _).mono ?_
      rintro e w1_ ⟨rfl, hb1⟩
      have t1 : Touch [] _ w1_ := Touch.below hb1
      have sg1 := ((seg0.setCell (o := off + j * 5) (by omega) (by omega) (.int .i64 (((k0 + Tree.cntS (l.take j)) : Nat) : Int))).setCell (o := off + j * 5 + 1) (by omega) (by omega) (.int .i64 ((((k0 + Tree.cntS (l.take j)) + 1) : Nat) : Int)))
      have hgl1 := Nat.lt_of_lt_of_le hgl sg1.size
      have p1_0 : w1_.cell? ⟨g, off + j * 5, none⟩ = some (.int .i64 (((k0 + Tree.cntS (l.take j)) : Nat) : Int)) := (World.cell?_of_block (a := ⟨g, off + j * 5, none⟩) (t1.block g hgl1 (by simp))).trans (by go_simp)
      have p1_1 : w1_.cell? ⟨g, off + j * 5 + 1, none⟩ = some (.int .i64 ((((k0 + Tree.cntS (l.take j)) + 1) : Nat) : Int)) := (World.cell?_of_block (a := ⟨g, off + j * 5 + 1, none⟩) (t1.block g hgl1 (by simp))).trans (by go_simp)
      have p1_2 : w1_.cell? ⟨g, off + j * 5 + 2, none⟩ = some (.string x.text) := (World.cell?_of_block (a := ⟨g, off + j * 5 + 2, none⟩) (t1.block g hgl1 (by simp))).trans (by go_simp)
      have p1_3 : w1_.cell? ⟨g, off + j * 5 + 3, none⟩ = some (.slice A1 x.names.length c1) := (World.cell?_of_block (a := ⟨g, off + j * 5 + 3, none⟩) (t1.block g hgl1 (by simp))).trans (by go_simp)
      have p1_4 : w1_.cell? ⟨g, off + j * 5 + 4, none⟩ = some (.slice A2 x.kids.length c2) := (World.cell?_of_block (a := ⟨g, off + j * 5 + 4, none⟩) (t1.block g hgl1 (by simp))).trans (by go_simp)
      have hu1 := t1.unf g (sg1.unf g hu)
      have q1_0 := unf_frozen hu1 (off + j * 5)
      have q1_1 := unf_frozen hu1 (off + j * 5 + 1)
      have q1_2 := unf_frozen hu1 (off + j * 5 + 2)
      have q1_3 := unf_frozen hu1 (off + j * 5 + 3)
      have q1_4 := unf_frozen hu1 (off + j * 5 + 4)
      have seg1 : Seg g (off + j * 5) (off + j * 5 + 5) ([]) wr w1_ := (Seg.mono sg1 (by intro b hb; first | (cases hb; done) | exact hb | (simp only [List.nil_append, List.append_assoc, List.mem_append, List.mem_cons, List.not_mem_nil, or_false, false_or] at hb ⊢; simp [hb]))).touch t1 (by intro b hb; first | (cases hb; done) | exact hb | (simp only [List.nil_append, List.append_assoc, List.mem_append, List.mem_cons, List.not_mem_nil, or_false, false_or] at hb ⊢; simp [hb])) (by simp) hgl1
      go_wp2_with fail
      have sg2 := (seg1.setCell (o := off + j * 5 + 2) (by omega) (by omega) (.string (mtext ((k0 + Tree.cntS (l.take j)) + 2))))
      have OS1 := seg_read O1.out sg2 fl1 gn1 (fun b hb hm => by simp at hm)
      have NS1 := seg_new nw1 sg2
      refine (markStringS_any _ _ _ _ _ lo _ ((k0 + Tree.cntS (l.take j)) + 3) _ (by omega) (OS1) (NS1) (by have := HCN.out; have := HS.out; omega)).mono ?_
      rintro e w2_ ⟨y1, rfl, yl1, yo1, ym1, t2⟩
      have YO1 := hide yo1
      have YL1 := hide yl1
      clear yo1 OS1
      have hgl2 := Nat.lt_of_lt_of_le hgl sg2.size
      have p2_0 : w2_.cell? ⟨g, off + j * 5, none⟩ = some (.int .i64 (((k0 + Tree.cntS (l.take j)) : Nat) : Int)) := (World.cell?_of_block (a := ⟨g, off + j * 5, none⟩) (t2.block g hgl2 gn1)).trans (by go_simp)
      have p2_1 : w2_.cell? ⟨g, off + j * 5 + 1, none⟩ = some (.int .i64 ((((k0 + Tree.cntS (l.take j)) + 1) : Nat) : Int)) := (World.cell?_of_block (a := ⟨g, off + j * 5 + 1, none⟩) (t2.block g hgl2 gn1)).trans (by go_simp)
      have p2_2 : w2_.cell? ⟨g, off + j * 5 + 2, none⟩ = some (.string (mtext ((k0 + Tree.cntS (l.take j)) + 2))) := (World.cell?_of_block (a := ⟨g, off + j * 5 + 2, none⟩) (t2.block g hgl2 gn1)).trans (by go_simp)
      have p2_3 : w2_.cell? ⟨g, off + j * 5 + 3, none⟩ = some (.slice A1 x.names.length c1) := (World.cell?_of_block (a := ⟨g, off + j * 5 + 3, none⟩) (t2.block g hgl2 gn1)).trans (by go_simp)
      have p2_4 : w2_.cell? ⟨g, off + j * 5 + 4, none⟩ = some (.slice A2 x.kids.length c2) := (World.cell?_of_block (a := ⟨g, off + j * 5 + 4, none⟩) (t2.block g hgl2 gn1)).trans (by go_simp)
      have hu2 := t2.unf g (sg2.unf g hu)
      have q2_0 := unf_frozen hu2 (off + j * 5)
      have q2_1 := unf_frozen hu2 (off + j * 5 + 1)
      have q2_2 := unf_frozen hu2 (off + j * 5 + 2)
      have q2_3 := unf_frozen hu2 (off + j * 5 + 3)
      have q2_4 := unf_frozen hu2 (off + j * 5 + 4)
      have seg2 : Seg g (off + j * 5) (off + j * 5 + 5) (f1) wr w2_ := (Seg.mono sg2 (by intro b hb; first | (cases hb; done) | exact hb | (simp only [List.nil_append, List.append_assoc, List.mem_append, List.mem_cons, List.not_mem_nil, or_false, false_or] at hb ⊢; simp [hb]))).touch t2 (by intro b hb; first | (cases hb; done) | exact hb | (simp only [List.nil_append, List.append_assoc, List.mem_append, List.mem_cons, List.not_mem_nil, or_false, false_or] at hb ⊢; simp [hb])) gn1 hgl2
      go_wp2_with fail
      have sg3 := seg2
      have OS2 := seg_read O2.out sg3 fl2 gn2 (fun b hb hm => by (try simp only [List.mem_append] at hm); rcases hm with hm <;> first | exact dj1 b hm b (by simp [hb]) rfl)
      have NS2 := seg_new nw2 sg3
      refine (HC.out _ _ _ _ lo _ (((k0 + Tree.cntS (l.take j)) + 3) + x.names.length) _ (by omega) (OS2) (NS2) (by have := HCN.out; have := HS.out; omega)).mono ?_
      rintro e w3_ ⟨y2, rfl, yl2, yo2, ym2, t3⟩
      have YO2 := hide yo2
      have YL2 := hide yl2
      clear yo2 OS2
      have hgl3 := Nat.lt_of_lt_of_le hgl sg3.size
      have p3_0 : w3_.cell? ⟨g, off + j * 5, none⟩ = some (.int .i64 (((k0 + Tree.cntS (l.take j)) : Nat) : Int)) := (World.cell?_of_block (a := ⟨g, off + j * 5, none⟩) (t3.block g hgl3 gn2)).trans (by go_simp)
      have p3_1 : w3_.cell? ⟨g, off + j * 5 + 1, none⟩ = some (.int .i64 ((((k0 + Tree.cntS (l.take j)) + 1) : Nat) : Int)) := (World.cell?_of_block (a := ⟨g, off + j * 5 + 1, none⟩) (t3.block g hgl3 gn2)).trans (by go_simp)
      have p3_2 : w3_.cell? ⟨g, off + j * 5 + 2, none⟩ = some (.string (mtext ((k0 + Tree.cntS (l.take j)) + 2))) := (World.cell?_of_block (a := ⟨g, off + j * 5 + 2, none⟩) (t3.block g hgl3 gn2)).trans (by go_simp)
      have p3_3 : w3_.cell? ⟨g, off + j * 5 + 3, none⟩ = some (.slice A1 x.names.length c1) := (World.cell?_of_block (a := ⟨g, off + j * 5 + 3, none⟩) (t3.block g hgl3 gn2)).trans (by go_simp)
      have p3_4 : w3_.cell? ⟨g, off + j * 5 + 4, none⟩ = some (.slice A2 x.kids.length c2) := (World.cell?_of_block (a := ⟨g, off + j * 5 + 4, none⟩) (t3.block g hgl3 gn2)).trans (by go_simp)
      have hu3 := t3.unf g (sg3.unf g hu)
      have q3_0 := unf_frozen hu3 (off + j * 5)
      have q3_1 := unf_frozen hu3 (off + j * 5 + 1)
      have q3_2 := unf_frozen hu3 (off + j * 5 + 2)
      have q3_3 := unf_frozen hu3 (off + j * 5 + 3)
      have q3_4 := unf_frozen hu3 (off + j * 5 + 4)
      have YO1 := hide (Ow.touch YO1.out t3 (fun b hb => Nat.lt_of_lt_of_le (fl1 b hb) sg3.size) (fun b hb hm => dj1 b hb b (by simp [hm]) rfl))
      have seg3 : Seg g (off + j * 5) (off + j * 5 + 5) (f1 ++ (f2)) wr w3_ := (Seg.mono sg3 (by intro b hb; first | (cases hb; done) | exact hb | (simp only [List.nil_append, List.append_assoc, List.mem_append, List.mem_cons, List.not_mem_nil, or_false, false_or] at hb ⊢; simp [hb]))).touch t3 (by intro b hb; first | (cases hb; done) | exact hb | (simp only [List.nil_append, List.append_assoc, List.mem_append, List.mem_cons, List.not_mem_nil, or_false, false_or] at hb ⊢; simp [hb])) gn2 hgl3
      go_wp2
      go_roundw
      case rel =>
        have hseg := Seg.mono (fj := f1 ++ (f2)) seg3 (by intro b hb; first | (cases hb; done) | exact hb | (simp only [List.nil_append, List.append_assoc, List.mem_append, List.mem_cons, List.not_mem_nil, or_false, false_or] at hb ⊢; simp [hb]))
        have hnew := HP.out _ (Tree.mk ((((k0 + Tree.cntS (l.take j)) : Nat) : Int)) (((((k0 + Tree.cntS (l.take j)) + 1) : Nat) : Int)) (mtext ((k0 + Tree.cntS (l.take j)) + 2)) y1 y2) [.int .i64 (((k0 + Tree.cntS (l.take j)) : Nat) : Int), .int .i64 ((((k0 + Tree.cntS (l.take j)) + 1) : Nat) : Int), .string (mtext ((k0 + Tree.cntS (l.take j)) + 2)), .slice A1 x.names.length c1, .slice A2 x.kids.length c2] (by
          have h := OwC.mTree (w := w3_) (x := (Tree.mk ((((k0 + Tree.cntS (l.take j)) : Nat) : Int)) (((((k0 + Tree.cntS (l.take j)) + 1) : Nat) : Int)) (mtext ((k0 + Tree.cntS (l.take j)) + 2)) y1 y2)) (by show (Lit.int .i64 (((k0 + Tree.cntS (l.take j)) : Nat) : Int)).wf = true; exact WalkArith.wf_i64 (by have := HCN.out; have := HS.out; omega)) (by show (Lit.int .i64 ((((k0 + Tree.cntS (l.take j)) + 1) : Nat) : Int)).wf = true; exact WalkArith.wf_i64 (by have := HCN.out; have := HS.out; omega)) (mtext_size ((k0 + Tree.cntS (l.take j)) + 2) (by have := HCN.out; have := HS.out; omega)) (by have h := YO1.out; first | exact h | (rw [YL1.out]; exact h) | simpa [YL1.out] using h) (by have h := YO2.out; first | exact h | (rw [YL2.out]; exact h) | simpa [YL2.out] using h)
          first | exact h | simpa using h) (fun i u hi => by
          match i, hi with
          | 0, hi => simp at hi; subst hi; go_simp
          | 1, hi => simp at hi; subst hi; go_simp
          | 2, hi => simp at hi; subst hi; go_simp
          | 3, hi => simp at hi; subst hi; go_simp
          | 4, hi => simp at hi; subst hi; go_simp) hseg HN.out.lt
        refine ⟨⟨j + 1, lj.set j (Tree.mk ((((k0 + Tree.cntS (l.take j)) : Nat) : Int)) (((((k0 + Tree.cntS (l.take j)) + 1) : Nat) : Int)) (mtext ((k0 + Tree.cntS (l.take j)) + 2)) y1 y2), by omega, by simpa using HL.out, by rw [HS.out, HCN.out]; go_num, by go_num, by rw [List.length_set]; exact hnew, ?_, ?_⟩, HT.out.trans (hseg.to_touch hg hfi)⟩
        · rw [take_set_succ lj j _ (by have := HL.out; omega), HS.out]
          refine Tree.mkS_snoc _ _ _ _ _ HM.out ((Tree.mk_iff _ _ _).2 ?_)
          exact ⟨(((k0 + Tree.cntS (l.take j)) + 3) + x.names.length), ((((k0 + Tree.cntS (l.take j)) + 3) + x.names.length) + Tree.cntS x.kids), rfl, rfl, rfl, ym1, ym2, by rw [HCN.out]; simp only [Nat.add_assoc]; try omega⟩
        · rw [drop_set_succ]
          have h := congrArg (List.drop 1) HD.out
          simpa [List.drop_drop, Nat.add_comm] using h
      case measure => simp [intOf]; omega
    · obtain rfl : j = l.length := by omega
      have HO := hide hoj
      clear hoj hlj
      go_wp2
      go_ret
      have e1 : lj.take l.length = lj := List.take_of_length_le (by have := HL.out; omega)
      have e2 : l.take l.length = l := List.take_length
      have hmm := HM.out
      try rw [e1] at hmm
      try rw [e2] at hmm
      exact ⟨lj, (by first | exact rfl | (rw [e2]; exact rfl)), HL.out, HO.out, hmm, HT.out⟩
theorem markTree_kids (x : Tree) : MarkTreeS x.kids := Tree.ind (fun x ih => markTreeS_of x.kids ih) x
theorem markTreeS_any (l : List Tree) : MarkTreeS l := markTreeS_of l fun x _ => markTree_kids x
def HeldTreeS (l : List Tree) : Prop := ∀ (A : Option Addr) (n c : Nat) (fp : List Nat) (z : Int) (a b : Nat) (w : World), z = a → Ow w (.s 5 l.length (l.flatMap Tree.cells)) (.slice A n c) fp → Lt fp w.heap.size → Tree.mkS l a b → b ≤ 1099511627776 →
  Calls Try.prog 171 #[.slice A n c, .int .i64 z] w fun e w' => e = .returned (.int .i64 (b : Nat)) ∧ Below w.heap.size w w'
set_option maxRecDepth 100000 in
set_option maxHeartbeats 1000000 in
theorem heldTreeS_of (l : List Tree) (ih : ∀ x ∈ l, HeldTreeS x.kids) : HeldTreeS l := by
  intro A n c fp z a b w hz h hf hmk hbb
  subst hz
  obtain ⟨rfl, hc, hm⟩ := h.nlen
  unfold maxLen at hm
  have HMK := hide hmk
  have hab := Tree.mkS_le _ _ _ hmk
  clear hmk
  go_enter Try.func171, Try.ntmps171
  go_wp2
  go_loopw [1, 5] (fun u i wr => (∃ (j d : Nat), j ≤ l.length ∧ u = .int .i64 (d : Nat) ∧ i = .int .i64 (j : Nat) ∧ Tree.mkS (l.drop j) d b) ∧ Below w.heap.size w wr) (fun _ i _ => l.length - (intOf i).toNat)
  case atStart => exact ⟨⟨0, a, Nat.zero_le _, rfl, rfl, HMK.out⟩, Below.refl _ _⟩
  case round =>
    obtain ⟨⟨j, d, hj, rfl, rfl, hmj⟩, hbel⟩ := hrel
    have HB := hide hbel
    have HJ := hide hmj
    have hdb := Tree.mkS_le _ _ _ hmj
    clear hmj
    by_cases hlt : j < l.length
    · obtain ⟨g, off, us, fi, rfl, hg, hfi, hul, hcs, ho⟩ := (h.below HB.out hf).elem Tree.cells_len hlt
      obtain ⟨d2, hmx, hmr⟩ := Tree.mkS_drop l b j hlt d HJ.out
      have HR := hide hmr
      have hd2 := Tree.mkS_le _ _ _ hmr
      clear hmr
      have HC := hide (ih _ (List.getElem_mem hlt))
      have hgl : g < wr.heap.size := (hf.up HB.out) g hg
      have hfl := (hf.up HB.out).sub hfi
      generalize l[j] = x at *
      obtain ⟨A1, c1, A2, c2, f1, f2, rfl, w0, w1, w2, o1, o2, rfl⟩ := ho.oTree
      obtain ⟨e1, e2, m0, m1, m2, m3, m4, hd2e⟩ := (x.mk_iff _ _).1 hmx
      have HD := hide hd2e
      clear hd2e hmx
      have p0 := hcs 0 _ rfl
      have p1 := hcs 1 _ rfl
      have p2 := hcs 2 _ rfl
      have p3 := hcs 3 _ rfl
      have p4 := hcs 4 _ rfl
      simp only [Nat.add_zero] at p0
      rw [m0] at p0
      rw [m1] at p1
      rw [m2] at p2
      have b3 := m3.1
      have b4 := Tree.mkS_le _ _ _ m4
      have hbd : d2 ≤ 1099511627776 := by omega
      have M3 := hide m3
      have M4 := hide m4
      have x_e1 : e1 ≤ d2 := by have := HD.out; omega
      have x_e2 : e2 ≤ d2 := by have := HD.out; omega
      have z0 : d + 1 ≤ d2 := by have := HD.out; omega
      have z1 : d + 2 ≤ d2 := by have := HD.out; omega
      have z2 : d + 3 ≤ d2 := by have := HD.out; omega
      have hend : e2 ≤ d2 := by have := HD.out; omega
      have HBS := hide (And.intro trivial (And.intro trivial trivial) : True ∧ True ∧ True)
      clear b3
      clear m0 m1 m2 m3 m4 hcs ho
      have O1 := hide o1
      clear o1
      have O2 := hide o2
      clear o2
      have fl1 := hfl.left
      have fl2 := hfl.right
      have B0 := hide (Below.refl wr.heap.size wr)
      go_wp2
      go_region_held3 (fun u => u.cell? ⟨g, off + j * 5 + 2, none⟩ = some (.string (mtext (d + 2)))) (first | go_keep | exact (hb1.cell (p := ⟨g, off + j * 5 + 2, none⟩) (by first | exact hgl | exact hgl0)).trans (by go_simp))
        (first | (go_at_call 176; refine (markText_any _ (d + 2) (by omega) (by omega) _).mono ?_; rintro e w1_ ⟨rfl, hb1⟩))
      have hb1 : Below wr.heap.size wr w1_ := ⟨hb1.os, hb1.tape, hb1.output, hb1.size, hb1.block⟩
      have B1 := hide (B0.out.trans (hb1.mono B0.out.size))
      have hgl1 := Nat.lt_of_lt_of_le hgl B1.out.size
      have p1_3 := (B1.out.cell (p := ⟨g, off + j * 5 + 3, none⟩) hgl).trans p3
      have p1_4 := (B1.out.cell (p := ⟨g, off + j * 5 + 4, none⟩) hgl).trans p4
      go_wp2_with fail
      refine (heldStringS_any _ _ _ _ _ _ (d + 3) e1 _ (by omega) (O1.out.below B1.out fl1) (fl1.up B1.out) M3.out (by omega)).mono ?_
      rintro e w2_ ⟨rfl, hb2⟩
      have B2 := hide (B1.out.trans (hb2.mono B1.out.size))
      have hgl2 := Nat.lt_of_lt_of_le hgl B2.out.size
      have p2_4 := (B2.out.cell (p := ⟨g, off + j * 5 + 4, none⟩) hgl).trans p4
      go_wp2_with fail
      refine (HC.out _ _ _ _ _ e1 e2 _ (by omega) (O2.out.below B2.out fl2) (fl2.up B2.out) M4.out (by omega)).mono ?_
      rintro e w3_ ⟨rfl, hb3⟩
      have B3 := hide (B2.out.trans (hb3.mono B2.out.size))
      have hgl3 := Nat.lt_of_lt_of_le hgl B3.out.size
      go_wp2
      go_roundw
      case rel => exact ⟨⟨j + 1, d2, by omega, by (rw [HD.out]; try go_num), by go_num, HR.out⟩, HB.out.trans (B3.out.mono HB.out.size)⟩
      case measure => simp [intOf]; omega
    · obtain rfl : j = l.length := by omega
      have e := HJ.out
      rw [List.drop_length] at e
      simp only [Tree.mkS] at e
      subst e
      clear HJ
      go_wp2
      go_ret
      exact ⟨rfl, HB.out⟩
theorem heldTree_kids (x : Tree) : HeldTreeS x.kids := Tree.ind (fun x ih => heldTreeS_of x.kids ih) x
theorem heldTreeS_any (l : List Tree) : HeldTreeS l := heldTreeS_of l fun x _ => heldTree_kids x
end Go.Proofs.Ytbjblchhenmgjaa
namespace Go.Proofs.Ytbjblchhenmgjaa
open Go.ChangeShapes Go.WideShapes Go.ChangeAt Go.RowKit
def Tree.mkTop (x : Tree) (a b : Nat) : Prop := ∃ e1, MkStringS x.names a e1 ∧ Tree.mkS x.kids e1 b
def Tree.cntTop (x : Tree) : Nat := x.names.length + Tree.cntS x.kids
theorem Tree.cntTop_eq (x : Tree) : x.cntTop = x.names.length + Tree.cntS x.kids := rfl
set_option maxRecDepth 100000 in
set_option maxHeartbeats 1000000 in
theorem markTree_any (x : Tree) (us : List Value) (fp : List Nat) (lo : Nat) (z : Int) (k0 : Nat) (w : World) (hz : z = k0) (ho : OwC w x.cells us fp) (hn : New w fp lo) (hb : k0 + x.cntTop ≤ 1099511627776) :
    Calls Try.prog 86 #[.agg us.toArray, .int .i64 z] w fun e w' => ∃ (x' : Tree), e = .returned (.int .i64 ((k0 + x.cntTop : Nat) : Int)) ∧ OwC w' x'.cells us fp ∧ x'.mkTop k0 (k0 + x.cntTop) ∧ Touch fp w w' := by
  subst hz
  have hc := x.cntTop_eq
  obtain ⟨A1, c1, A2, c2, f1, f2, rfl, w0, w1, w2, o1, o2, rfl⟩ := ho.oTree
  have hw0 : Below w.heap.size w (w.alloc (.cells #[.int .i64 x.sort, .int .i64 x.num, .string x.text, .slice A1 x.names.length c1, .slice A2 x.kids.length c2] 26)) := (Below.refl _ _).alloc (Nat.le_refl _) _
  have R0 : Row (w.alloc (.cells #[.int .i64 x.sort, .int .i64 x.num, .string x.text, .slice A1 x.names.length c1, .slice A2 x.kids.length c2] 26)) w.heap.size 26 [.int .i64 x.sort, .int .i64 x.num, .string x.text, .slice A1 x.names.length c1, .slice A2 x.kids.length c2] := Row.new w _ _
  have n1 := hn.left
  have r1 := hn.right
  have dj1 := (List.nodup_append.1 hn.nd).2.2
  have n2 := r1
  have O1 := hide (o1.below hw0 n1.lt)
  have N1 := hide (n1.alloc (.cells #[.int .i64 x.sort, .int .i64 x.num, .string x.text, .slice A1 x.names.length c1, .slice A2 x.kids.length c2] 26))
  have nb1 : w.heap.size ∉ f1 := fun h => Nat.lt_irrefl _ (n1.lt _ h)
  have O2 := hide (o2.below hw0 n2.lt)
  have N2 := hide (n2.alloc (.cells #[.int .i64 x.sort, .int .i64 x.num, .string x.text, .slice A1 x.names.length c1, .slice A2 x.kids.length c2] 26))
  have nb2 : w.heap.size ∉ f2 := fun h => Nat.lt_irrefl _ (n2.lt _ h)
  have dd1_2 : ∀ g ∈ f2, g ∉ f1 := fun g hg h => dj1 _ h _ hg rfl
  clear ho o1 o2 hn
  have T0 := hide (Touch.below (fp := f1 ++ (f2)) hw0)
  go_enter Try.func86, Try.ntmps86
  go_wp2_with fail
  refine (markStringS_any x.names _ _ _ f1 lo _ (k0) _ (by omega) O1.out N1.out (by omega)).mono ?_
  rintro e w1_ ⟨y1, rfl, yl1, yo1, ym1, t1⟩
  have T1 := hide (T0.out.trans (t1.mono (by intro g hg; simp [hg])))
  have YO1 := hide yo1
  have YM1 := hide ym1
  have YL1 := hide yl1
  clear yo1 ym1 yl1
  have R1 : Row w1_ w.heap.size 26 [.int .i64 x.sort, .int .i64 x.num, .string x.text, .slice A1 x.names.length c1, .slice A2 x.kids.length c2] := (t1.block _ R0.lt nb1).trans R0
  have O2 := hide (O2.out.touch t1 N2.out.lt dd1_2)
  have N2 := hide (t1.new N2.out)
  have M1 := hide (t1.new N1.out)
  clear t1
  have lt1 := R1.lt
  have cc1 := R1.cell 4
  go_wp2_with fail
  refine (markTreeS_any x.kids _ _ _ f2 lo _ ((k0) + x.names.length) _ (by omega) O2.out N2.out (by omega)).mono ?_
  rintro e w2_ ⟨y2, rfl, yl2, yo2, ym2, t2⟩
  have T2 := hide (T1.out.trans (t2.mono (by intro g hg; simp [hg])))
  have YO2 := hide yo2
  have YM2 := hide ym2
  have YL2 := hide yl2
  clear yo2 ym2 yl2
  have R2 : Row w2_ w.heap.size 26 [.int .i64 x.sort, .int .i64 x.num, .string x.text, .slice A1 x.names.length c1, .slice A2 x.kids.length c2] := (t2.block _ R1.lt nb2).trans R1
  have YO1 := hide (YO1.out.touch t2 M1.out.lt (fun g hg h => dd1_2 g h hg))
  have M1 := hide (t2.new M1.out)
  have M2 := hide (t2.new N2.out)
  clear t2
  have lt2 := R2.lt
  go_wp2
  go_ret
  refine ⟨(Tree.mk x.sort x.num x.text y1 y2), ret_int (by omega), OwC.mTree w0 w1 w2 YO1.out YO2.out, ?_, ?_⟩
  · refine ⟨_, YM1.out, ?_⟩
    have h := YM2.out
    rw [hc]
    (try simp only [Nat.add_assoc] at h)
    (try simp only [Nat.add_assoc])
    exact h
  · exact T2.out
set_option maxRecDepth 100000 in
set_option maxHeartbeats 1000000 in
theorem heldTree_any (x : Tree) (us : List Value) (fp : List Nat) (z : Int) (a b : Nat) (w : World) (hz : z = a) (ho : OwC w x.cells us fp) (hf : Lt fp w.heap.size) (hmk : x.mkTop a b) (hb : b ≤ 1099511627776) :
    Calls Try.prog 87 #[.agg us.toArray, .int .i64 z] w fun e w' => e = .returned (.int .i64 (b : Nat)) ∧ Below w.heap.size w w' := by
  subst hz
  obtain ⟨A1, c1, A2, c2, f1, f2, rfl, w0, w1, w2, o1, o2, rfl⟩ := ho.oTree
  obtain ⟨e1, m1, m2⟩ := hmk
  have hw0 : Below w.heap.size w (w.alloc (.cells #[.int .i64 x.sort, .int .i64 x.num, .string x.text, .slice A1 x.names.length c1, .slice A2 x.kids.length c2] 26)) := (Below.refl _ _).alloc (Nat.le_refl _) _
  have R0 : Row (w.alloc (.cells #[.int .i64 x.sort, .int .i64 x.num, .string x.text, .slice A1 x.names.length c1, .slice A2 x.kids.length c2] 26)) w.heap.size 26 [.int .i64 x.sort, .int .i64 x.num, .string x.text, .slice A1 x.names.length c1, .slice A2 x.kids.length c2] := Row.new w _ _
  have fl1 := hf.left
  have fl2 := (hf).right
  have le2 := Tree.mkS_le _ _ _ m2
  have le1 : a ≤ e1 := by have := m1.1; omega
  have O1 := hide o1
  have HM1 := hide m1
  have O2 := hide o2
  have HM2 := hide m2
  have B0 := hide hw0
  clear ho hf hw0 o1 m1 o2 m2
  go_enter Try.func87, Try.ntmps87
  go_wp2_with fail
  refine (heldStringS_any x.names _ _ _ f1 _ a e1 _ (by omega) (O1.out.below B0.out fl1) (fl1.up B0.out) HM1.out (by omega)).mono ?_
  rintro e w1_ ⟨rfl, hb1⟩
  have B1 := hide (B0.out.trans (hb1.mono B0.out.size))
  have R1 := R0.below hb1 R0.lt
  have lt1 := R1.lt
  have cc1 := R1.cell 4
  clear hb1
  go_wp2_with fail
  refine (heldTreeS_any x.kids _ _ _ f2 _ e1 b _ (by omega) (O2.out.below B1.out fl2) (fl2.up B1.out) HM2.out (by omega)).mono ?_
  rintro e w2_ ⟨rfl, hb2⟩
  have B2 := hide (B1.out.trans (hb2.mono B1.out.size))
  have R2 := R1.below hb2 R1.lt
  have lt2 := R2.lt
  clear hb2
  go_wp2
  go_ret
  exact ⟨rfl, B2.out⟩
end Go.Proofs.Ytbjblchhenmgjaa
namespace Go.Proofs.Ytbjblchhenmgjaa
open Go.ChangeShapes Go.WideShapes Go.ChangeAt Go.RowKit

theorem Tree.cnt_le : ∀ (t : Tree), t.cnt ≤ 3 + 3 * t.bulk := by
  intro t
  refine Tree.ind (P := fun t => t.cnt ≤ 3 + 3 * t.bulk) (fun t ih => ?_) t
  have hs : ∀ (l : List Tree), (∀ x ∈ l, x.cnt ≤ 3 + 3 * x.bulk) → Tree.cntS l ≤ 3 * l.length + 3 * Tree.bulkS l := by
    intro l
    induction l with
    | nil => intro _; simp [Tree.cntS]
    | cons x r ih2 =>
      intro h
      have h1 := h x (by simp)
      have h2 := ih2 (fun y hy => h y (by simp [hy]))
      simp only [Tree.cntS, Tree.bulkS, List.length_cons]
      omega
  have h1 := hs t.kids ih
  have h2 := t.cnt_eq
  have h3 := t.bulk_eq
  unfold bulkStrs at h3
  omega
theorem Tree.cntTop_le (t : Tree) : t.cntTop ≤ 3 + 3 * t.bulk := by
  have h1 := t.cnt_le
  have h2 := t.cnt_eq
  have h3 := t.cntTop_eq
  omega
set_option maxRecDepth 100000 in
theorem markEvent_touch (x : Event) (us : List Value) (fp : List Nat) (lo : Nat) (z : Int) (k0 : Nat) (w : World) (hz : z = k0) (ho : OwC w x.cells us fp) (hn : New w fp lo) (hb : k0 + x.body.cntTop ≤ 1099511627776) :
    Calls Try.prog 21 #[.agg us.toArray, .int .i64 z] w fun e w' => e = .returned (.int .i64 ((k0 + x.body.cntTop : Nat) : Int)) ∧ Touch fp w w' := by
  subst hz
  have ho' := ho
  obtain ⟨A1, c1, A2, c2, f1, f2, rfl, w0, w1, w2, w3, w4, o1, o2, rfl⟩ := ho.oEvent
  have hw1 : Below w.heap.size w (w.alloc (.cells #[.string x.type_, .int .i64 x.version, .int .i64 x.body.sort, .int .i64 x.body.num, .string x.body.text, .slice A1 x.body.names.length c1, .slice A2 x.body.kids.length c2] 28)) := (Below.refl _ _).alloc (Nat.le_refl _) _
  have HO := hide (ho'.oBody.below hw1 hn.lt)
  have HN := hide (hn.below hw1 hn.lt)
  have T0 := hide (Touch.below (fp := f1 ++ f2) hw1)
  clear ho ho' o1 o2 hw1
  go_enter Try.func21, Try.ntmps21
  go_wp2_with fail
  refine (markTree_any x.body _ _ lo _ k0 _ rfl HO.out HN.out hb).mono ?_
  rintro e w' ⟨y, rfl, _, _, ht⟩
  have HT := hide (T0.out.trans ht)
  go_wp2
  go_ret
  exact ⟨rfl, HT.out⟩
end Go.Proofs.Ytbjblchhenmgjaa
