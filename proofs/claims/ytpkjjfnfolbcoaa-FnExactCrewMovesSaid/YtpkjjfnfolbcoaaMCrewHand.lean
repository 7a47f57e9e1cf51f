/-
  CrewHand: what the laws' marks write, and that they are found again.
-/
import Derived.Test.YtpkjjfnfolbcoaaDCrewHand
import Derived.Test.YtpkjjfnfolbcoaaMark
set_option linter.unusedVariables false
set_option linter.unusedSimpArgs false
namespace Go.Proofs.Ytpkjjfnfolbcoaa
open Go.ChangeShapes Go.WideShapes Go.ChangeAt Go.RowKit

def CrewHand.mk_ (x : CrewHand) (a b : Nat) : Prop := x.state = ((a : Nat) : Int) ∧ x.job = (((a + 1) : Nat) : Int) ∧ b = a + 2
def CrewHand.mkS : List CrewHand → Nat → Nat → Prop
  | [], a, b => a = b
  | x :: r, a, b => ∃ c, x.mk_ a c ∧ CrewHand.mkS r c b
def CrewHand.cnt (x : CrewHand) : Nat := 2
def CrewHand.cntS : List CrewHand → Nat
  | [] => 0
  | x :: r => x.cnt + CrewHand.cntS r
theorem CrewHand.mk_iff (x : CrewHand) (a b : Nat) : x.mk_ a b ↔ x.state = ((a : Nat) : Int) ∧ x.job = (((a + 1) : Nat) : Int) ∧ b = a + 2 := Iff.rfl
theorem CrewHand.cnt_eq (x : CrewHand) : x.cnt = 2 := rfl
theorem CrewHand.mkS_snoc : ∀ (l : List CrewHand) (x : CrewHand) (a c b : Nat), CrewHand.mkS l a c → x.mk_ c b → CrewHand.mkS (l ++ [x]) a b
  | [], x, a, c, b, h, hx => by
    simp only [CrewHand.mkS] at h
    subst h
    exact ⟨b, hx, rfl⟩
  | y :: r, x, a, c, b, h, hx => by
    obtain ⟨d, h1, h2⟩ := h
    exact ⟨d, h1, CrewHand.mkS_snoc r x d c b h2 hx⟩
theorem CrewHand.mkS_drop : ∀ (l : List CrewHand) (b : Nat) (k : Nat) (h : k < l.length) (c : Nat), CrewHand.mkS (l.drop k) c b → ∃ d, l[k].mk_ c d ∧ CrewHand.mkS (l.drop (k + 1)) d b
  | x :: r, b, 0, _, c, h => by
    obtain ⟨d, h1, h2⟩ := h
    exact ⟨d, h1, h2⟩
  | x :: r, b, k + 1, hk, c, h => CrewHand.mkS_drop r b k (by simpa using hk) c h
theorem CrewHand.cntS_append (a b : List CrewHand) : CrewHand.cntS (a ++ b) = CrewHand.cntS a + CrewHand.cntS b := by
  induction a with
  | nil => simp [CrewHand.cntS]
  | cons x a ih => simp [CrewHand.cntS, ih]; omega
theorem CrewHand.cntS_snoc (l : List CrewHand) (k : Nat) (h : k < l.length) : CrewHand.cntS (l.take (k + 1)) = CrewHand.cntS (l.take k) + l[k].cnt := by
  rw [List.take_succ_eq_append_getElem h, CrewHand.cntS_append]
  simp [CrewHand.cntS]
theorem CrewHand.cntS_le (l : List CrewHand) (k : Nat) : CrewHand.cntS (l.take k) ≤ CrewHand.cntS l := by
  conv => rhs; rw [← List.take_append_drop k l, CrewHand.cntS_append]
  omega
theorem CrewHand.mk_le (x : CrewHand) (a b : Nat) (h : x.mk_ a b) : a ≤ b := by
  obtain ⟨h0, h1, hb⟩ := (x.mk_iff a b).1 h
  skip
  omega
theorem CrewHand.mkS_le : ∀ (l : List CrewHand) (a b : Nat), CrewHand.mkS l a b → a ≤ b
  | [], a, b, h => by simp only [CrewHand.mkS] at h; omega
  | x :: r, a, b, h => by
    obtain ⟨c, h1, h2⟩ := h
    exact Nat.le_trans (x.mk_le _ _ h1) (CrewHand.mkS_le r _ _ h2)

def MarkCrewHandS (l : List CrewHand) : Prop := ∀ (A : Option Addr) (n c : Nat) (fp : List Nat) (lo : Nat) (z : Int) (k0 : Nat) (w : World), z = k0 → Ow w (.s 2 l.length (l.flatMap CrewHand.cells)) (.slice A n c) fp → New w fp lo → k0 + CrewHand.cntS l ≤ 1099511627776 →
  Calls Try.prog 91 #[.slice A n c, .int .i64 z] w fun e w' => ∃ (l' : List CrewHand), e = .returned (.int .i64 ((k0 + CrewHand.cntS l : Nat) : Int)) ∧ l'.length = l.length ∧ Ow w' (.s 2 l'.length (l'.flatMap CrewHand.cells)) (.slice A n c) fp ∧ CrewHand.mkS l' k0 (k0 + CrewHand.cntS l) ∧ Touch fp w w'
set_option maxRecDepth 100000 in
set_option maxHeartbeats 1000000 in
theorem markCrewHandS_of (l : List CrewHand) : MarkCrewHandS l := by
  intro A n c fp lo z k0 w hz h hn hb
  subst hz
  obtain ⟨rfl, hc, hm⟩ := h.nlen
  unfold maxLen at hm
  go_enter Try.func91, Try.ntmps91
  go_wp2
  go_loopw [1, 5] (fun a i wr => (∃ (j : Nat) (lj : List CrewHand), j ≤ l.length ∧ lj.length = l.length ∧ a = .int .i64 ((k0 + CrewHand.cntS (l.take j) : Nat) : Int) ∧ i = .int .i64 (j : Nat) ∧ Ow wr (.s 2 lj.length (lj.flatMap CrewHand.cells)) (.slice A l.length c) fp ∧ CrewHand.mkS (lj.take j) k0 (k0 + CrewHand.cntS (l.take j)) ∧ lj.drop j = l.drop j) ∧ Touch fp w wr) (fun _ i _ => l.length - (intOf i).toNat)
  case atStart => exact ⟨⟨0, l, Nat.zero_le _, rfl, by simp [CrewHand.cntS], rfl, h, by simp [CrewHand.cntS, CrewHand.mkS], rfl⟩, Touch.refl _ _⟩
  case round =>
    obtain ⟨⟨j, lj, hj, hlj, rfl, rfl, hoj, hmj, hdj⟩, ht⟩ := hrel
    have HN := hide (ht.new hn)
    have HT := hide ht
    have HM := hide hmj
    have HL := hide hlj
    have HD := hide hdj
    clear hmj ht hdj
    by_cases hlt : j < l.length
    · have hltj : j < lj.length := by omega
      have hxe : lj[j] = l[j] := by
        have h1 : (lj.drop j)[0]? = (l.drop j)[0]? := by rw [HD.out]
        simpa [List.getElem?_drop, List.getElem?_eq_getElem hlt, List.getElem?_eq_getElem hltj] using h1
      have HS := hide (CrewHand.cntS_snoc l j hlt)
      have hle := CrewHand.cntS_le l (j + 1)
      obtain ⟨g, off, us, fi, rfl, hg, hfi, hgi, hnd, hul, hcs, hov, hput⟩ := hoj.upd CrewHand.cells_len HN.out.nd hltj
      rw [hxe] at hov
      have HCN := hide (l[j].cnt_eq)
      clear hxe
      generalize hxx : l[j] = x at *
      have HXX := hide hxx
      clear hxx
      have hbb : k0 + CrewHand.cntS (l.take j) + (2) ≤ 1099511627776 := by have h1 := HS.out; have h2 := HCN.out; have h3 : CrewHand.cntS l ≥ CrewHand.cntS (l.take (j + 1)) := hle; omega
      obtain ⟨rfl, w0, w1, rfl⟩ := hov.oCrewHand
      have p0 := hcs 0 _ rfl
      have p1 := hcs 1 _ rfl
      simp only [Nat.add_zero] at p0
      have hu := HN.out.uf g hg
      have hgl := HN.out.lt g hg
      have hfl : Lt ([]) wr.heap.size := HN.out.lt.sub hfi
      have q0 := unf_frozen hu (off + j * 2)
      have q1 := unf_frozen hu (off + j * 2 + 1)
      have HP := hide hput
      clear hcs hput hov hlj hoj
      have seg0 : Seg g (off + j * 2) (off + j * 2 + 2) [] wr wr := Seg.refl _ _ _ _ _
      go_wp2
      go_roundw
      case rel =>
        have hseg := Seg.mono (fj := []) ((seg0.setCell (o := off + j * 2) (by omega) (by omega) (.int .i64 (((k0 + CrewHand.cntS (l.take j)) : Nat) : Int))).setCell (o := off + j * 2 + 1) (by omega) (by omega) (.int .i64 ((((k0 + CrewHand.cntS (l.take j)) + 1) : Nat) : Int))) (by intro b hb; first | (cases hb; done) | exact hb | (simp only [List.nil_append, List.append_assoc, List.mem_append, List.mem_cons, List.not_mem_nil, or_false, false_or] at hb ⊢; simp [hb]))
        have hnew := HP.out _ (CrewHand.mk ((((k0 + CrewHand.cntS (l.take j)) : Nat) : Int)) (((((k0 + CrewHand.cntS (l.take j)) + 1) : Nat) : Int))) [.int .i64 (((k0 + CrewHand.cntS (l.take j)) : Nat) : Int), .int .i64 ((((k0 + CrewHand.cntS (l.take j)) + 1) : Nat) : Int)] (by
          have h := OwC.mCrewHand (w := ((wr.setCell ⟨g, off + j * 2, none⟩ (.int .i64 (((k0 + CrewHand.cntS (l.take j)) : Nat) : Int))).setCell ⟨g, off + j * 2 + 1, none⟩ (.int .i64 ((((k0 + CrewHand.cntS (l.take j)) + 1) : Nat) : Int)))) (x := (CrewHand.mk ((((k0 + CrewHand.cntS (l.take j)) : Nat) : Int)) (((((k0 + CrewHand.cntS (l.take j)) + 1) : Nat) : Int)))) (by show (Lit.int .i64 (((k0 + CrewHand.cntS (l.take j)) : Nat) : Int)).wf = true; exact WalkArith.wf_i64 (by have := HCN.out; have := HS.out; omega)) (by show (Lit.int .i64 ((((k0 + CrewHand.cntS (l.take j)) + 1) : Nat) : Int)).wf = true; exact WalkArith.wf_i64 (by have := HCN.out; have := HS.out; omega))
          first | exact h | simpa using h) (fun i u hi => by
          match i, hi with
          | 0, hi => simp at hi; subst hi; go_simp
          | 1, hi => simp at hi; subst hi; go_simp) hseg HN.out.lt
        refine ⟨⟨j + 1, lj.set j (CrewHand.mk ((((k0 + CrewHand.cntS (l.take j)) : Nat) : Int)) (((((k0 + CrewHand.cntS (l.take j)) + 1) : Nat) : Int))), by omega, by simpa using HL.out, by rw [HS.out, HCN.out]; go_num, by go_num, by rw [List.length_set]; exact hnew, ?_, ?_⟩, HT.out.trans (hseg.to_touch hg hfi)⟩
        · rw [take_set_succ lj j _ (by have := HL.out; omega), HS.out]
          refine CrewHand.mkS_snoc _ _ _ _ _ HM.out ((CrewHand.mk_iff _ _ _).2 ?_)
          exact ⟨rfl, rfl, by rw [HCN.out]; simp only [Nat.add_assoc]; try omega⟩
        · rw [drop_set_succ]
          have h := congrArg (List.drop 1) HD.out
          simpa [List.drop_drop, Nat.add_comm] using h
      case measure => simp [intOf]; omega
    · obtain rfl : j = l.length := by omega
      have HO := hide hoj
      clear hoj hlj
      go_wp2
      go_ret
      have e1 : lj.take l.length = lj := List.take_of_length_le (by have := HL.out; omega)
      have e2 : l.take l.length = l := List.take_length
      have hmm := HM.out
      try rw [e1] at hmm
      try rw [e2] at hmm
      exact ⟨lj, (by first | exact rfl | (rw [e2]; exact rfl)), HL.out, HO.out, hmm, HT.out⟩
theorem markCrewHandS_any (l : List CrewHand) : MarkCrewHandS l := markCrewHandS_of l
end Go.Proofs.Ytpkjjfnfolbcoaa
