/-
  CrewJob: what the laws' marks write, and that they are found again.
-/
import Derived.Test.YtpkjjfnfolbcoaaQDCrewJob
import Derived.Test.YtpkjjfnfolbcoaaQMark
set_option linter.unusedVariables false
set_option linter.unusedSimpArgs false
namespace Go.Proofs.Ytpkjjfnfolbcoaa
open Go.ChangeShapes Go.WideShapes Go.ChangeAt Go.RowKit

def CrewJob.mk_ (x : CrewJob) (a b : Nat) : Prop := ∃ e1 : Nat, MkIntS x.items a e1 ∧ x.bad = ((e1 : Nat) : Int) ∧ b = e1 + 1
def CrewJob.mkS : List CrewJob → Nat → Nat → Prop
  | [], a, b => a = b
  | x :: r, a, b => ∃ c, x.mk_ a c ∧ CrewJob.mkS r c b
def CrewJob.cnt (x : CrewJob) : Nat := 1 + x.items.length
def CrewJob.cntS : List CrewJob → Nat
  | [] => 0
  | x :: r => x.cnt + CrewJob.cntS r
theorem CrewJob.mk_iff (x : CrewJob) (a b : Nat) : x.mk_ a b ↔ ∃ e1 : Nat, MkIntS x.items a e1 ∧ x.bad = ((e1 : Nat) : Int) ∧ b = e1 + 1 := Iff.rfl
theorem CrewJob.cnt_eq (x : CrewJob) : x.cnt = 1 + x.items.length := rfl
theorem CrewJob.mkS_snoc : ∀ (l : List CrewJob) (x : CrewJob) (a c b : Nat), CrewJob.mkS l a c → x.mk_ c b → CrewJob.mkS (l ++ [x]) a b
  | [], x, a, c, b, h, hx => by
    simp only [CrewJob.mkS] at h
    subst h
    exact ⟨b, hx, rfl⟩
  | y :: r, x, a, c, b, h, hx => by
    obtain ⟨d, h1, h2⟩ := h
    exact ⟨d, h1, CrewJob.mkS_snoc r x d c b h2 hx⟩
theorem CrewJob.mkS_drop : ∀ (l : List CrewJob) (b : Nat) (k : Nat) (h : k < l.length) (c : Nat), CrewJob.mkS (l.drop k) c b → ∃ d, l[k].mk_ c d ∧ CrewJob.mkS (l.drop (k + 1)) d b
  | x :: r, b, 0, _, c, h => by
    obtain ⟨d, h1, h2⟩ := h
    exact ⟨d, h1, h2⟩
  | x :: r, b, k + 1, hk, c, h => CrewJob.mkS_drop r b k (by simpa using hk) c h
theorem CrewJob.cntS_append (a b : List CrewJob) : CrewJob.cntS (a ++ b) = CrewJob.cntS a + CrewJob.cntS b := by
  induction a with
  | nil => simp [CrewJob.cntS]
  | cons x a ih => simp [CrewJob.cntS, ih]; omega
theorem CrewJob.cntS_snoc (l : List CrewJob) (k : Nat) (h : k < l.length) : CrewJob.cntS (l.take (k + 1)) = CrewJob.cntS (l.take k) + l[k].cnt := by
  rw [List.take_succ_eq_append_getElem h, CrewJob.cntS_append]
  simp [CrewJob.cntS]
theorem CrewJob.cntS_le (l : List CrewJob) (k : Nat) : CrewJob.cntS (l.take k) ≤ CrewJob.cntS l := by
  conv => rhs; rw [← List.take_append_drop k l, CrewJob.cntS_append]
  omega
theorem CrewJob.mk_le (x : CrewJob) (a b : Nat) (h : x.mk_ a b) : a ≤ b := by
  obtain ⟨e1, h0, h1, hb⟩ := (x.mk_iff a b).1 h
  have q0 := h0.1
  omega
theorem CrewJob.mkS_le : ∀ (l : List CrewJob) (a b : Nat), CrewJob.mkS l a b → a ≤ b
  | [], a, b, h => by simp only [CrewJob.mkS] at h; omega
  | x :: r, a, b, h => by
    obtain ⟨c, h1, h2⟩ := h
    exact Nat.le_trans (x.mk_le _ _ h1) (CrewJob.mkS_le r _ _ h2)

def MarkCrewJobS (l : List CrewJob) : Prop := ∀ (A : Option Addr) (n c : Nat) (fp : List Nat) (lo : Nat) (z : Int) (k0 : Nat) (w : World), z = k0 → Ow w (.s 2 l.length (l.flatMap CrewJob.cells)) (.slice A n c) fp → New w fp lo → k0 + CrewJob.cntS l ≤ 1099511627776 →
  Calls Try.prog 33 #[.slice A n c, .int .i64 z] w fun e w' => ∃ (l' : List CrewJob), e = .returned (.int .i64 ((k0 + CrewJob.cntS l : Nat) : Int)) ∧ l'.length = l.length ∧ Ow w' (.s 2 l'.length (l'.flatMap CrewJob.cells)) (.slice A n c) fp ∧ CrewJob.mkS l' k0 (k0 + CrewJob.cntS l) ∧ Touch fp w w'
set_option maxRecDepth 100000 in
set_option maxHeartbeats 1000000 in
theorem markCrewJobS_of (l : List CrewJob) : MarkCrewJobS l := by
  intro A n c fp lo z k0 w hz h hn hb
  subst hz
  obtain ⟨rfl, hc, hm⟩ := h.nlen
  unfold maxLen at hm
  go_enter Try.func33, Try.ntmps33
  go_wp2
  go_loopw [1, 5] (fun a i wr => (∃ (j : Nat) (lj : List CrewJob), j ≤ l.length ∧ lj.length = l.length ∧ a = .int .i64 ((k0 + CrewJob.cntS (l.take j) : Nat) : Int) ∧ i = .int .i64 (j : Nat) ∧ Ow wr (.s 2 lj.length (lj.flatMap CrewJob.cells)) (.slice A l.length c) fp ∧ CrewJob.mkS (lj.take j) k0 (k0 + CrewJob.cntS (l.take j)) ∧ lj.drop j = l.drop j) ∧ Touch fp w wr) (fun _ i _ => l.length - (intOf i).toNat)
  case atStart => exact ⟨⟨0, l, Nat.zero_le _, rfl, by simp [CrewJob.cntS], rfl, h, by simp [CrewJob.cntS, CrewJob.mkS], rfl⟩, Touch.refl _ _⟩
  case round =>
    obtain ⟨⟨j, lj, hj, hlj, rfl, rfl, hoj, hmj, hdj⟩, ht⟩ := hrel
    have HN := hide (ht.new hn)
    have HT := hide ht
    have HM := hide hmj
    have HL := hide hlj
    have HD := hide hdj
    clear hmj ht hdj
    by_cases hlt : j < l.length
    · have hltj : j < lj.length := by omega
      have hxe : lj[j] = l[j] := by
        have h1 : (lj.drop j)[0]? = (l.drop j)[0]? := by rw [HD.out]
        simpa [List.getElem?_drop, List.getElem?_eq_getElem hlt, List.getElem?_eq_getElem hltj] using h1
      have HS := hide (CrewJob.cntS_snoc l j hlt)
      have hle := CrewJob.cntS_le l (j + 1)
      obtain ⟨g, off, us, fi, rfl, hg, hfi, hgi, hnd, hul, hcs, hov, hput⟩ := hoj.upd CrewJob.cells_len HN.out.nd hltj
      rw [hxe] at hov
      have HCN := hide (l[j].cnt_eq)
      clear hxe
      generalize hxx : l[j] = x at *
      have HXX := hide hxx
      clear hxx
      have hbb : k0 + CrewJob.cntS (l.take j) + (1 + x.items.length) ≤ 1099511627776 := by have h1 := HS.out; have h2 := HCN.out; have h3 : CrewJob.cntS l ≥ CrewJob.cntS (l.take (j + 1)) := hle; omega
      obtain ⟨A1, c1, f1, rfl, o1, w1, rfl⟩ := hov.oCrewJob
      have p0 := hcs 0 _ rfl
      have p1 := hcs 1 _ rfl
      simp only [Nat.add_zero] at p0
      have hu := HN.out.uf g hg
      have hgl := HN.out.lt g hg
      have hfl : Lt (f1) wr.heap.size := HN.out.lt.sub hfi
      have q0 := unf_frozen hu (off + j * 2)
      have q1 := unf_frozen hu (off + j * 2 + 1)
      have n1 := hnd
      have gn1 : g ∉ f1 := hgi
      have fl1 := hfl
      have sb1 : f1 ⊆ fp := fun b hb => hfi hb
      have nw1 : New wr f1 lo := ⟨fun b hb => HN.out.fr b (sb1 hb), n1, fun b hb => HN.out.uf b (sb1 hb)⟩
      have HP := hide hput
      clear hcs hput hov hlj hoj
      have O1 := hide o1
      clear o1
      have seg0 : Seg g (off + j * 2) (off + j * 2 + 2) [] wr wr := Seg.refl _ _ _ _ _
      go_wp2_with fail
      have sg1 := seg0
      have OS1 := seg_read O1.out sg1 fl1 gn1 (fun b hb hm => by simp at hm)
      have NS1 := seg_new nw1 sg1
      refine (markIntS_any _ _ _ _ _ lo _ (k0 + CrewJob.cntS (l.take j)) _ (by omega) (OS1) (NS1) (by have := HCN.out; have := HS.out; omega)).mono ?_
      rintro e w1_ ⟨y1, rfl, yl1, yo1, ym1, t1⟩
      have YO1 := hide yo1
      have YL1 := hide yl1
      clear yo1 OS1
      have hgl1 := Nat.lt_of_lt_of_le hgl sg1.size
      have p1_0 : w1_.cell? ⟨g, off + j * 2, none⟩ = some (.slice A1 x.items.length c1) := (World.cell?_of_block (a := ⟨g, off + j * 2, none⟩) (t1.block g hgl1 gn1)).trans (by go_simp)
      have p1_1 : w1_.cell? ⟨g, off + j * 2 + 1, none⟩ = some (.int .i64 x.bad) := (World.cell?_of_block (a := ⟨g, off + j * 2 + 1, none⟩) (t1.block g hgl1 gn1)).trans (by go_simp)
      have hu1 := t1.unf g (sg1.unf g hu)
      have q1_0 := unf_frozen hu1 (off + j * 2)
      have q1_1 := unf_frozen hu1 (off + j * 2 + 1)
      have seg1 : Seg g (off + j * 2) (off + j * 2 + 2) (f1) wr w1_ := (Seg.mono sg1 (by intro b hb; first | (cases hb; done) | exact hb | (simp only [List.nil_append, List.append_assoc, List.mem_append, List.mem_cons, List.not_mem_nil, or_false, false_or] at hb ⊢; simp [hb]))).touch t1 (by intro b hb; first | (cases hb; done) | exact hb | (simp only [List.nil_append, List.append_assoc, List.mem_append, List.mem_cons, List.not_mem_nil, or_false, false_or] at hb ⊢; simp [hb])) gn1 hgl1
      go_wp2
      go_roundw
      case rel =>
        have hseg := Seg.mono (fj := f1) (seg1.setCell (o := off + j * 2 + 1) (by omega) (by omega) (.int .i64 ((((k0 + CrewJob.cntS (l.take j)) + x.items.length) : Nat) : Int))) (by intro b hb; first | (cases hb; done) | exact hb | (simp only [List.nil_append, List.append_assoc, List.mem_append, List.mem_cons, List.not_mem_nil, or_false, false_or] at hb ⊢; simp [hb]))
        have hnew := HP.out _ (CrewJob.mk y1 (((((k0 + CrewJob.cntS (l.take j)) + x.items.length) : Nat) : Int))) [.slice A1 x.items.length c1, .int .i64 ((((k0 + CrewJob.cntS (l.take j)) + x.items.length) : Nat) : Int)] (by
          have h := OwC.mCrewJob (w := (w1_.setCell ⟨g, off + j * 2 + 1, none⟩ (.int .i64 ((((k0 + CrewJob.cntS (l.take j)) + x.items.length) : Nat) : Int)))) (x := (CrewJob.mk y1 (((((k0 + CrewJob.cntS (l.take j)) + x.items.length) : Nat) : Int)))) (by have h := (YO1.out.setCell (a := ⟨g, off + j * 2 + 1, none⟩) gn1 (.int .i64 ((((k0 + CrewJob.cntS (l.take j)) + x.items.length) : Nat) : Int))); first | exact h | (rw [YL1.out]; exact h) | simpa [YL1.out] using h) (by show (Lit.int .i64 ((((k0 + CrewJob.cntS (l.take j)) + x.items.length) : Nat) : Int)).wf = true; exact WalkArith.wf_i64 (by have := HCN.out; have := HS.out; omega))
          first | exact h | simpa using h) (fun i u hi => by
          match i, hi with
          | 0, hi => simp at hi; subst hi; go_simp
          | 1, hi => simp at hi; subst hi; go_simp) hseg HN.out.lt
        refine ⟨⟨j + 1, lj.set j (CrewJob.mk y1 (((((k0 + CrewJob.cntS (l.take j)) + x.items.length) : Nat) : Int))), by omega, by simpa using HL.out, by rw [HS.out, HCN.out]; go_num, by go_num, by rw [List.length_set]; exact hnew, ?_, ?_⟩, HT.out.trans (hseg.to_touch hg hfi)⟩
        · rw [take_set_succ lj j _ (by have := HL.out; omega), HS.out]
          refine CrewJob.mkS_snoc _ _ _ _ _ HM.out ((CrewJob.mk_iff _ _ _).2 ?_)
          exact ⟨((k0 + CrewJob.cntS (l.take j)) + x.items.length), ym1, rfl, by rw [HCN.out]; simp only [Nat.add_assoc]; try omega⟩
        · rw [drop_set_succ]
          have h := congrArg (List.drop 1) HD.out
          simpa [List.drop_drop, Nat.add_comm] using h
      case measure => simp [intOf]; omega
    · obtain rfl : j = l.length := by omega
      have HO := hide hoj
      clear hoj hlj
      go_wp2
      go_ret
      have e1 : lj.take l.length = lj := List.take_of_length_le (by have := HL.out; omega)
      have e2 : l.take l.length = l := List.take_length
      have hmm := HM.out
      try rw [e1] at hmm
      try rw [e2] at hmm
      exact ⟨lj, (by first | exact rfl | (rw [e2]; exact rfl)), HL.out, HO.out, hmm, HT.out⟩
theorem markCrewJobS_any (l : List CrewJob) : MarkCrewJobS l := markCrewJobS_of l
end Go.Proofs.Ytpkjjfnfolbcoaa
