/-
  Kind: what the laws' marks write, and that they are found again.
-/
import Derived.Test.YtbjblchhenmgjaaDKind
import Derived.Test.YtbjblchhenmgjaaMark
set_option linter.unusedVariables false
set_option linter.unusedSimpArgs false
namespace Go.Proofs.Ytbjblchhenmgjaa
open Go.ChangeShapes Go.WideShapes Go.ChangeAt Go.RowKit

mutual
def Kind.mk_ : Kind → Nat → Nat → Prop
  | .mk sort names kids, a, b => ∃ e1 e2 : Nat, sort = ((a : Nat) : Int) ∧ MkStringS names (a + 1) e1 ∧ Kind.mkS kids e1 e2 ∧ b = e2
def Kind.mkS : List Kind → Nat → Nat → Prop
  | [], a, b => a = b
  | x :: r, a, b => ∃ c, x.mk_ a c ∧ Kind.mkS r c b
end
mutual
def Kind.cnt : Kind → Nat
  | .mk sort names kids => 1 + names.length + Kind.cntS kids
def Kind.cntS : List Kind → Nat
  | [] => 0
  | x :: r => x.cnt + Kind.cntS r
end
theorem Kind.mk_iff (x : Kind) (a b : Nat) : x.mk_ a b ↔ ∃ e1 e2 : Nat, x.sort = ((a : Nat) : Int) ∧ MkStringS x.names (a + 1) e1 ∧ Kind.mkS x.kids e1 e2 ∧ b = e2 := by cases x; rfl
theorem Kind.cnt_eq (x : Kind) : x.cnt = 1 + x.names.length + Kind.cntS x.kids := by cases x; rfl
theorem Kind.mkS_snoc : ∀ (l : List Kind) (x : Kind) (a c b : Nat), Kind.mkS l a c → x.mk_ c b → Kind.mkS (l ++ [x]) a b
  | [], x, a, c, b, h, hx => by
    simp only [Kind.mkS] at h
    subst h
    exact ⟨b, hx, rfl⟩
  | y :: r, x, a, c, b, h, hx => by
    obtain ⟨d, h1, h2⟩ := h
    exact ⟨d, h1, Kind.mkS_snoc r x d c b h2 hx⟩
theorem Kind.mkS_drop : ∀ (l : List Kind) (b : Nat) (k : Nat) (h : k < l.length) (c : Nat), Kind.mkS (l.drop k) c b → ∃ d, l[k].mk_ c d ∧ Kind.mkS (l.drop (k + 1)) d b
  | x :: r, b, 0, _, c, h => by
    obtain ⟨d, h1, h2⟩ := h
    exact ⟨d, h1, h2⟩
  | x :: r, b, k + 1, hk, c, h => Kind.mkS_drop r b k (by simpa using hk) c h
theorem Kind.cntS_append (a b : List Kind) : Kind.cntS (a ++ b) = Kind.cntS a + Kind.cntS b := by
  induction a with
  | nil => simp [Kind.cntS]
  | cons x a ih => simp [Kind.cntS, ih]; omega
theorem Kind.cntS_snoc (l : List Kind) (k : Nat) (h : k < l.length) : Kind.cntS (l.take (k + 1)) = Kind.cntS (l.take k) + l[k].cnt := by
  rw [List.take_succ_eq_append_getElem h, Kind.cntS_append]
  simp [Kind.cntS]
theorem Kind.cntS_le (l : List Kind) (k : Nat) : Kind.cntS (l.take k) ≤ Kind.cntS l := by
  conv => rhs; rw [← List.take_append_drop k l, Kind.cntS_append]
  omega
theorem Kind.mkS_le_of (l : List Kind) (ih : ∀ x ∈ l, ∀ a b, x.mk_ a b → a ≤ b) : ∀ a b, Kind.mkS l a b → a ≤ b := by
  induction l with
  | nil => intro a b h; simp only [Kind.mkS] at h; omega
  | cons x l ihl => intro a b h; obtain ⟨c, h1, h2⟩ := h; exact Nat.le_trans (ih x (by simp) _ _ h1) (ihl (fun y hy => ih y (by simp [hy])) _ _ h2)
theorem Kind.mk_le (x : Kind) : ∀ a b, x.mk_ a b → a ≤ b := by
  refine Kind.ind (P := fun x => ∀ a b, x.mk_ a b → a ≤ b) (fun x ihx => ?_) x
  intro a b h
  have ih := Kind.mkS_le_of x.kids ihx
  obtain ⟨e1, e2, h0, h1, h2, hb⟩ := (x.mk_iff a b).1 h
  have q1 := h1.1
  have q2 := ih _ _ h2
  omega
theorem Kind.mkS_le (l : List Kind) : ∀ a b, Kind.mkS l a b → a ≤ b := Kind.mkS_le_of l fun x _ => x.mk_le

def MarkKindS (l : List Kind) : Prop := ∀ (A : Option Addr) (n c : Nat) (fp : List Nat) (lo : Nat) (z : Int) (k0 : Nat) (w : World), z = k0 → Ow w (.s 3 l.length (l.flatMap Kind.cells)) (.slice A n c) fp → New w fp lo → k0 + Kind.cntS l ≤ 1099511627776 →
  Calls Try.prog 100 #[.slice A n c, .int .i64 z] w fun e w' => ∃ (l' : List Kind), e = .returned (.int .i64 ((k0 + Kind.cntS l : Nat) : Int)) ∧ l'.length = l.length ∧ Ow w' (.s 3 l'.length (l'.flatMap Kind.cells)) (.slice A n c) fp ∧ Kind.mkS l' k0 (k0 + Kind.cntS l) ∧ Touch fp w w'
set_option maxRecDepth 100000 in
set_option maxHeartbeats 1000000 in
theorem markKindS_of (l : List Kind) (ih : ∀ x ∈ l, MarkKindS x.kids) : MarkKindS l := by
  intro A n c fp lo z k0 w hz h hn hb
  subst hz
  obtain ⟨rfl, hc, hm⟩ := h.nlen
  unfold maxLen at hm
  go_enter Try.func100, Try.ntmps100
  go_wp2
  go_loopw [1, 5] (fun a i wr => (∃ (j : Nat) (lj : List Kind), j ≤ l.length ∧ lj.length = l.length ∧ a = .int .i64 ((k0 + Kind.cntS (l.take j) : Nat) : Int) ∧ i = .int .i64 (j : Nat) ∧ Ow wr (.s 3 lj.length (lj.flatMap Kind.cells)) (.slice A l.length c) fp ∧ Kind.mkS (lj.take j) k0 (k0 + Kind.cntS (l.take j)) ∧ lj.drop j = l.drop j) ∧ Touch fp w wr) (fun _ i _ => l.length - (intOf i).toNat)
  case atStart => exact ⟨⟨0, l, Nat.zero_le _, rfl, by simp [Kind.cntS], rfl, h, by simp [Kind.cntS, Kind.mkS], rfl⟩, Touch.refl _ _⟩
  case round =>
    obtain ⟨⟨j, lj, hj, hlj, rfl, rfl, hoj, hmj, hdj⟩, ht⟩ := hrel
    have HN := hide (ht.new hn)
    have HT := hide ht
    have HM := hide hmj
    have HL := hide hlj
    have HD := hide hdj
    clear hmj ht hdj
    by_cases hlt : j < l.length
    · have hltj : j < lj.length := by omega
      have hxe : lj[j] = l[j] := by
        have h1 : (lj.drop j)[0]? = (l.drop j)[0]? := by rw [HD.out]
        simpa [List.getElem?_drop, List.getElem?_eq_getElem hlt, List.getElem?_eq_getElem hltj] using h1
      have HS := hide (Kind.cntS_snoc l j hlt)
      have hle := Kind.cntS_le l (j + 1)
      obtain ⟨g, off, us, fi, rfl, hg, hfi, hgi, hnd, hul, hcs, hov, hput⟩ := hoj.upd Kind.cells_len HN.out.nd hltj
      rw [hxe] at hov
      have HC := hide (ih _ (List.getElem_mem hlt))
      have HCN := hide (l[j].cnt_eq)
      clear hxe
      generalize hxx : l[j] = x at *
      have HXX := hide hxx
      clear hxx
      have hbb : k0 + Kind.cntS (l.take j) + (1 + x.names.length + Kind.cntS x.kids) ≤ 1099511627776 := by have h1 := HS.out; have h2 := HCN.out; have h3 : Kind.cntS l ≥ Kind.cntS (l.take (j + 1)) := hle; omega
      obtain ⟨A1, c1, A2, c2, f1, f2, rfl, w0, o1, o2, rfl⟩ := hov.oKind
      have p0 := hcs 0 _ rfl
      have p1 := hcs 1 _ rfl
      have p2 := hcs 2 _ rfl
      simp only [Nat.add_zero] at p0
      have hu := HN.out.uf g hg
      have hgl := HN.out.lt g hg
      have hfl : Lt (f1 ++ (f2)) wr.heap.size := HN.out.lt.sub hfi
      have q0 := unf_frozen hu (off + j * 3)
      have q1 := unf_frozen hu (off + j * 3 + 1)
      have q2 := unf_frozen hu (off + j * 3 + 2)
      have dj1 := (List.nodup_append.1 hnd).2.2
      have n1 := (List.nodup_append.1 hnd).1
      have gn1 : g ∉ f1 := fun hm => hgi (List.mem_append_left _ hm)
      have fl1 := hfl.left
      have n2 := (List.nodup_append.1 hnd).2.1
      have gn2 : g ∉ f2 := (fun hm => hgi (List.mem_append_right _ hm))
      have fl2 := hfl.right
      have sb1 : f1 ⊆ fp := fun b hb => hfi (List.mem_append_left _ hb)
      have nw1 : New wr f1 lo := ⟨fun b hb => HN.out.fr b (sb1 hb), n1, fun b hb => HN.out.uf b (sb1 hb)⟩
      have sb2 : f2 ⊆ fp := fun b hb => hfi (List.mem_append_right _ hb)
      have nw2 : New wr f2 lo := ⟨fun b hb => HN.out.fr b (sb2 hb), n2, fun b hb => HN.out.uf b (sb2 hb)⟩
      have HP := hide hput
      clear hcs hput hov hlj hoj
      have O1 := hide o1
      clear o1
      have O2 := hide o2
      clear o2
      have seg0 : Seg g (off + j * 3) (off + j * 3 + 3) [] wr wr := Seg.refl _ _ _ _ _
      go_wp2_with fail
      have sg1 := (seg0.setCell (o := off + j * 3) (by omega) (by omega) (.int .i64 (((k0 + Kind.cntS (l.take j)) : Nat) : Int)))
      have OS1 := seg_read O1.out sg1 fl1 gn1 (fun b hb hm => by simp at hm)
      have NS1 := seg_new nw1 sg1
      refine (markStringS_any _ _ _ _ _ lo _ ((k0 + Kind.cntS (l.take j)) + 1) _ (by omega) (OS1) (NS1) (by have := HCN.out; have := HS.out; omega)).mono ?_
      rintro e w1_ ⟨y1, rfl, yl1, yo1, ym1, t1⟩
      have YO1 := hide yo1
      have YL1 := hide yl1
      clear yo1 OS1
      have hgl1 := Nat.lt_of_lt_of_le hgl sg1.size
      have p1_0 : w1_.cell? ⟨g, off + j * 3, none⟩ = some (.int .i64 (((k0 + Kind.cntS (l.take j)) : Nat) : Int)) := (World.cell?_of_block (a := ⟨g, off + j * 3, none⟩) (t1.block g hgl1 gn1)).trans (by go_simp)
      have p1_1 : w1_.cell? ⟨g, off + j * 3 + 1, none⟩ = some (.slice A1 x.names.length c1) := (World.cell?_of_block (a := ⟨g, off + j * 3 + 1, none⟩) (t1.block g hgl1 gn1)).trans (by go_simp)
      have p1_2 : w1_.cell? ⟨g, off + j * 3 + 2, none⟩ = some (.slice A2 x.kids.length c2) := (World.cell?_of_block (a := ⟨g, off + j * 3 + 2, none⟩) (t1.block g hgl1 gn1)).trans (by go_simp)
      have hu1 := t1.unf g (sg1.unf g hu)
      have q1_0 := unf_frozen hu1 (off + j * 3)
      have q1_1 := unf_frozen hu1 (off + j * 3 + 1)
      have q1_2 := unf_frozen hu1 (off + j * 3 + 2)
      have seg1 : Seg g (off + j * 3) (off + j * 3 + 3) (f1) wr w1_ := (Seg.mono sg1 (by intro b hb; first | (cases hb; done) | exact hb | (simp only [List.nil_append, List.append_assoc, List.mem_append, List.mem_cons, List.not_mem_nil, or_false, false_or] at hb ⊢; simp [hb]))).touch t1 (by intro b hb; first | (cases hb; done) | exact hb | (simp only [List.nil_append, List.append_assoc, List.mem_append, List.mem_cons, List.not_mem_nil, or_false, false_or] at hb ⊢; simp [hb])) gn1 hgl1
      go_wp2_with fail
      have sg2 := seg1
      have OS2 := seg_read O2.out sg2 fl2 gn2 (fun b hb hm => by (try simp only [List.mem_append] at hm); rcases hm with hm <;> first | exact dj1 b hm b (by simp [hb]) rfl)
      have NS2 := seg_new nw2 sg2
      refine (HC.out _ _ _ _ lo _ (((k0 + Kind.cntS (l.take j)) + 1) + x.names.length) _ (by omega) (OS2) (NS2) (by have := HCN.out; have := HS.out; omega)).mono ?_
      rintro e w2_ ⟨y2, rfl, yl2, yo2, ym2, t2⟩
      have YO2 := hide yo2
      have YL2 := hide yl2
      clear yo2 OS2
      have hgl2 := Nat.lt_of_lt_of_le hgl sg2.size
      have p2_0 : w2_.cell? ⟨g, off + j * 3, none⟩ = some (.int .i64 (((k0 + Kind.cntS (l.take j)) : Nat) : Int)) := (World.cell?_of_block (a := ⟨g, off + j * 3, none⟩) (t2.block g hgl2 gn2)).trans (by go_simp)
      have p2_1 : w2_.cell? ⟨g, off + j * 3 + 1, none⟩ = some (.slice A1 x.names.length c1) := (World.cell?_of_block (a := ⟨g, off + j * 3 + 1, none⟩) (t2.block g hgl2 gn2)).trans (by go_simp)
      have p2_2 : w2_.cell? ⟨g, off + j * 3 + 2, none⟩ = some (.slice A2 x.kids.length c2) := (World.cell?_of_block (a := ⟨g, off + j * 3 + 2, none⟩) (t2.block g hgl2 gn2)).trans (by go_simp)
      have hu2 := t2.unf g (sg2.unf g hu)
      have q2_0 := unf_frozen hu2 (off + j * 3)
      have q2_1 := unf_frozen hu2 (off + j * 3 + 1)
      have q2_2 := unf_frozen hu2 (off + j * 3 + 2)
      have YO1 := hide (Ow.touch YO1.out t2 (fun b hb => Nat.lt_of_lt_of_le (fl1 b hb) sg2.size) (fun b hb hm => dj1 b hb b (by simp [hm]) rfl))
      have seg2 : Seg g (off + j * 3) (off + j * 3 + 3) (f1 ++ (f2)) wr w2_ := (Seg.mono sg2 (by intro b hb; first | (cases hb; done) | exact hb | (simp only [List.nil_append, List.append_assoc, List.mem_append, List.mem_cons, List.not_mem_nil, or_false, false_or] at hb ⊢; simp [hb]))).touch t2 (by intro b hb; first | (cases hb; done) | exact hb | (simp only [List.nil_append, List.append_assoc, List.mem_append, List.mem_cons, List.not_mem_nil, or_false, false_or] at hb ⊢; simp [hb])) gn2 hgl2
      go_wp2
      go_roundw
      case rel =>
        have hseg := Seg.mono (fj := f1 ++ (f2)) seg2 (by intro b hb; first | (cases hb; done) | exact hb | (simp only [List.nil_append, List.append_assoc, List.mem_append, List.mem_cons, List.not_mem_nil, or_false, false_or] at hb ⊢; simp [hb]))
        have hnew := HP.out _ (Kind.mk ((((k0 + Kind.cntS (l.take j)) : Nat) : Int)) y1 y2) [.int .i64 (((k0 + Kind.cntS (l.take j)) : Nat) : Int), .slice A1 x.names.length c1, .slice A2 x.kids.length c2] (by
          have h := OwC.mKind (w := w2_) (x := (Kind.mk ((((k0 + Kind.cntS (l.take j)) : Nat) : Int)) y1 y2)) (by show (Lit.int .i64 (((k0 + Kind.cntS (l.take j)) : Nat) : Int)).wf = true; exact WalkArith.wf_i64 (by have := HCN.out; have := HS.out; omega)) (by have h := YO1.out; first | exact h | (rw [YL1.out]; exact h) | simpa [YL1.out] using h) (by have h := YO2.out; first | exact h | (rw [YL2.out]; exact h) | simpa [YL2.out] using h)
          first | exact h | simpa using h) (fun i u hi => by
          match i, hi with
          | 0, hi => simp at hi; subst hi; go_simp
          | 1, hi => simp at hi; subst hi; go_simp
          | 2, hi => simp at hi; subst hi; go_simp) hseg HN.out.lt
        refine ⟨⟨j + 1, lj.set j (Kind.mk ((((k0 + Kind.cntS (l.take j)) : Nat) : Int)) y1 y2), by omega, by simpa using HL.out, by rw [HS.out, HCN.out]; go_num, by go_num, by rw [List.length_set]; exact hnew, ?_, ?_⟩, HT.out.trans (hseg.to_touch hg hfi)⟩
        · rw [take_set_succ lj j _ (by have := HL.out; omega), HS.out]
          refine Kind.mkS_snoc _ _ _ _ _ HM.out ((Kind.mk_iff _ _ _).2 ?_)
          exact ⟨(((k0 + Kind.cntS (l.take j)) + 1) + x.names.length), ((((k0 + Kind.cntS (l.take j)) + 1) + x.names.length) + Kind.cntS x.kids), rfl, ym1, ym2, by rw [HCN.out]; simp only [Nat.add_assoc]; try omega⟩
        · rw [drop_set_succ]
          have h := congrArg (List.drop 1) HD.out
          simpa [List.drop_drop, Nat.add_comm] using h
      case measure => simp [intOf]; omega
    · obtain rfl : j = l.length := by omega
      have HO := hide hoj
      clear hoj hlj
      go_wp2
      go_ret
      have e1 : lj.take l.length = lj := List.take_of_length_le (by have := HL.out; omega)
      have e2 : l.take l.length = l := List.take_length
      have hmm := HM.out
      try rw [e1] at hmm
      try rw [e2] at hmm
      exact ⟨lj, (by first | exact rfl | (rw [e2]; exact rfl)), HL.out, HO.out, hmm, HT.out⟩
theorem markKind_kids (x : Kind) : MarkKindS x.kids := Kind.ind (fun x ih => markKindS_of x.kids ih) x
theorem markKindS_any (l : List Kind) : MarkKindS l := markKindS_of l fun x _ => markKind_kids x
def HeldKindS (l : List Kind) : Prop := ∀ (A : Option Addr) (n c : Nat) (fp : List Nat) (z : Int) (a b : Nat) (w : World), z = a → Ow w (.s 3 l.length (l.flatMap Kind.cells)) (.slice A n c) fp → Lt fp w.heap.size → Kind.mkS l a b → b ≤ 1099511627776 →
  Calls Try.prog 102 #[.slice A n c, .int .i64 z] w fun e w' => e = .returned (.int .i64 (b : Nat)) ∧ Below w.heap.size w w'
set_option maxRecDepth 100000 in
set_option maxHeartbeats 1000000 in
theorem heldKindS_of (l : List Kind) (ih : ∀ x ∈ l, HeldKindS x.kids) : HeldKindS l := by
  intro A n c fp z a b w hz h hf hmk hbb
  subst hz
  obtain ⟨rfl, hc, hm⟩ := h.nlen
  unfold maxLen at hm
  have HMK := hide hmk
  have hab := Kind.mkS_le _ _ _ hmk
  clear hmk
  go_enter Try.func102, Try.ntmps102
  go_wp2
  go_loopw [1, 5] (fun u i wr => (∃ (j d : Nat), j ≤ l.length ∧ u = .int .i64 (d : Nat) ∧ i = .int .i64 (j : Nat) ∧ Kind.mkS (l.drop j) d b) ∧ Below w.heap.size w wr) (fun _ i _ => l.length - (intOf i).toNat)
  case atStart => exact ⟨⟨0, a, Nat.zero_le _, rfl, rfl, HMK.out⟩, Below.refl _ _⟩
  case round =>
    obtain ⟨⟨j, d, hj, rfl, rfl, hmj⟩, hbel⟩ := hrel
    have HB := hide hbel
    have HJ := hide hmj
    have hdb := Kind.mkS_le _ _ _ hmj
    clear hmj
    by_cases hlt : j < l.length
    · obtain ⟨g, off, us, fi, rfl, hg, hfi, hul, hcs, ho⟩ := (h.below HB.out hf).elem Kind.cells_len hlt
      obtain ⟨d2, hmx, hmr⟩ := Kind.mkS_drop l b j hlt d HJ.out
      have HR := hide hmr
      have hd2 := Kind.mkS_le _ _ _ hmr
      clear hmr
      have HC := hide (ih _ (List.getElem_mem hlt))
      have hgl : g < wr.heap.size := (hf.up HB.out) g hg
      have hfl := (hf.up HB.out).sub hfi
      generalize l[j] = x at *
      obtain ⟨A1, c1, A2, c2, f1, f2, rfl, w0, o1, o2, rfl⟩ := ho.oKind
      obtain ⟨e1, e2, m0, m1, m2, hd2e⟩ := (x.mk_iff _ _).1 hmx
      have HD := hide hd2e
      clear hd2e hmx
      have p0 := hcs 0 _ rfl
      have p1 := hcs 1 _ rfl
      have p2 := hcs 2 _ rfl
      simp only [Nat.add_zero] at p0
      rw [m0] at p0
      have b1 := m1.1
      have b2 := Kind.mkS_le _ _ _ m2
      have hbd : d2 ≤ 1099511627776 := by omega
      have M1 := hide m1
      have M2 := hide m2
      have x_e1 : e1 ≤ d2 := by have := HD.out; omega
      have x_e2 : e2 ≤ d2 := by have := HD.out; omega
      have z0 : d + 1 ≤ d2 := by have := HD.out; omega
      have hend : e2 ≤ d2 := by have := HD.out; omega
      have HBS := hide (And.intro trivial (And.intro trivial trivial) : True ∧ True ∧ True)
      clear b1
      clear m0 m1 m2 hcs ho
      have O1 := hide o1
      clear o1
      have O2 := hide o2
      clear o2
      have fl1 := hfl.left
      have fl2 := hfl.right
      have B0 := hide (Below.refl wr.heap.size wr)
      go_wp2_with fail
      refine (heldStringS_any _ _ _ _ _ _ (d + 1) e1 _ (by omega) (O1.out.below B0.out fl1) (fl1.up B0.out) M1.out (by omega)).mono ?_
      rintro e w1_ ⟨rfl, hb1⟩
      have B1 := hide (B0.out.trans (hb1.mono B0.out.size))
      have hgl1 := Nat.lt_of_lt_of_le hgl B1.out.size
      have p1_2 := (B1.out.cell (p := ⟨g, off + j * 3 + 2, none⟩) hgl).trans p2
      go_wp2_with fail
      refine (HC.out _ _ _ _ _ e1 e2 _ (by omega) (O2.out.below B1.out fl2) (fl2.up B1.out) M2.out (by omega)).mono ?_
      rintro e w2_ ⟨rfl, hb2⟩
      have B2 := hide (B1.out.trans (hb2.mono B1.out.size))
      have hgl2 := Nat.lt_of_lt_of_le hgl B2.out.size
      go_wp2
      go_roundw
      case rel => exact ⟨⟨j + 1, d2, by omega, by (rw [HD.out]; try go_num), by go_num, HR.out⟩, HB.out.trans (B2.out.mono HB.out.size)⟩
      case measure => simp [intOf]; omega
    · obtain rfl : j = l.length := by omega
      have e := HJ.out
      rw [List.drop_length] at e
      simp only [Kind.mkS] at e
      subst e
      clear HJ
      go_wp2
      go_ret
      exact ⟨rfl, HB.out⟩
theorem heldKind_kids (x : Kind) : HeldKindS x.kids := Kind.ind (fun x ih => heldKindS_of x.kids ih) x
theorem heldKindS_any (l : List Kind) : HeldKindS l := heldKindS_of l fun x _ => heldKind_kids x
end Go.Proofs.Ytbjblchhenmgjaa
