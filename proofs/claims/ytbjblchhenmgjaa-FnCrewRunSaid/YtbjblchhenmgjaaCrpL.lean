/-
  Tree: what the laws' own helpers do: the size, a copy, equality. Trees that are ok: the program's look and the reference's l1Parts answer alike.
-/
import Derived.Test.YtbjblchhenmgjaaCrpK
import Derived.Test.YtbjblchhenmgjaaCrpC
set_option linter.unusedVariables false
set_option linter.unusedSimpArgs false
namespace Go.Proofs.Ytbjblchhenmgjaa
open Go.ChangeShapes Go.WideShapes Go.ChangeAt Go.RowKit



def EqTree (x : Tree) : Prop := ∀ (us vs : List Value) (fp fq : List Nat) (w : World), OwC w x.cells us fp → OwC w x.cells vs fq → Lt fp w.heap.size → Lt fq w.heap.size →
  Calls Try.prog 85 #[.agg us.toArray, .agg vs.toArray] w fun e w' => e = .returned (.bool true) ∧ Below w.heap.size w w'
def EqTreeS (l : List Tree) : Prop := ∀ (A A' : Option Addr) (n n' c c' : Nat) (fp fq : List Nat) (w : World), Ow w (.s 5 l.length (l.flatMap Tree.cells)) (.slice A n c) fp → Ow w (.s 5 l.length (l.flatMap Tree.cells)) (.slice A' n' c') fq → Lt fp w.heap.size → Lt fq w.heap.size →
  Calls Try.prog 169 #[.slice A n c, .slice A' n' c'] w fun e w' => e = .returned (.bool true) ∧ Below w.heap.size w w'
set_option maxRecDepth 100000 in
theorem eqTree_of (x : Tree) (ih : EqTreeS x.kids) : EqTree x := by
  intro us vs fp fq w ho ho' hf hf'
  obtain ⟨A1, c1, A2, c2, f1, f2, rfl, w0, w1, w2, o1, o2, rfl⟩ := ho.oTree
  obtain ⟨bA1, bc1, bA2, bc2, bf1, bf2, rfl, bw0, bw1, bw2, bo1, bo2, rfl⟩ := ho'.oTree
  have l1 := hf.left
  have l2 := hf.right
  have k1 := hf'.left
  have k2 := hf'.right
  have HI := hide ih
  clear ih
  have hB0 : Below w.heap.size w ((w.alloc (.cells #[.int .i64 x.sort, .int .i64 x.num, .string x.text, .slice A1 x.names.length c1, .slice A2 x.kids.length c2] 26)).alloc (.cells #[.int .i64 x.sort, .int .i64 x.num, .string x.text, .slice bA1 x.names.length bc1, .slice bA2 x.kids.length bc2] 26)) := ((Below.refl _ _).alloc (Nat.le_refl _) _).alloc (by simp) _
  have R0 : Row ((w.alloc (.cells #[.int .i64 x.sort, .int .i64 x.num, .string x.text, .slice A1 x.names.length c1, .slice A2 x.kids.length c2] 26)).alloc (.cells #[.int .i64 x.sort, .int .i64 x.num, .string x.text, .slice bA1 x.names.length bc1, .slice bA2 x.kids.length bc2] 26)) w.heap.size 26 [.int .i64 x.sort, .int .i64 x.num, .string x.text, .slice A1 x.names.length c1, .slice A2 x.kids.length c2] := (Row.new w _ _).alloc _
  have S0 : Row ((w.alloc (.cells #[.int .i64 x.sort, .int .i64 x.num, .string x.text, .slice A1 x.names.length c1, .slice A2 x.kids.length c2] 26)).alloc (.cells #[.int .i64 x.sort, .int .i64 x.num, .string x.text, .slice bA1 x.names.length bc1, .slice bA2 x.kids.length bc2] 26)) (w.heap.size + 1) 26 [.int .i64 x.sort, .int .i64 x.num, .string x.text, .slice bA1 x.names.length bc1, .slice bA2 x.kids.length bc2] := by
    have h := Row.new (w.alloc (.cells #[.int .i64 x.sort, .int .i64 x.num, .string x.text, .slice A1 x.names.length c1, .slice A2 x.kids.length c2] 26)) 26 [.int .i64 x.sort, .int .i64 x.num, .string x.text, .slice bA1 x.names.length bc1, .slice bA2 x.kids.length bc2]
    simpa using h
  clear ho ho'
  go_enter Try.func85, Try.ntmps85
  go_wp2_with fail
  refine (eqStringS_same _ _ _ _ _ _ _ _ _ _ (o1.below hB0 l1) (bo1.below hB0 k1)).mono ?_
  rintro e w1_ ⟨rfl, hb1⟩
  have hB1 := hB0.trans (hb1.mono hB0.size)
  have R1 := R0.below hb1 R0.lt
  have S1 := S0.below hb1 S0.lt
  have c1_4 := R1.cell 4
  have d1_4 := S1.cell 4
  go_wp2_with fail
  refine (HI.out _ _ _ _ _ _ _ _ _ (o2.below hB1 l2) (bo2.below hB1 k2) (l2.up hB1) (k2.up hB1)).mono ?_
  rintro e w2_ ⟨rfl, hb2⟩
  have hB2 := hB1.trans (hb2.mono hB1.size)
  have R2 := R1.below hb2 R1.lt
  have S2 := S1.below hb2 S1.lt
  go_wp2
  go_ret
  exact ⟨rfl, hB2⟩
set_option maxRecDepth 100000 in
theorem eqTreeS_of (l : List Tree) (ih : ∀ x ∈ l, EqTree x) : EqTreeS l := by
  intro A A' n n' c c' fp fq w h h' hf hf'
  obtain ⟨rfl, hc, hm⟩ := h.nlen
  obtain ⟨rfl, hc', hm'⟩ := h'.nlen
  unfold maxLen at hm hm'
  go_enter Try.func169, Try.ntmps169
  go_wp2
  go_loopw [5] (fun i wr => (∃ k : Nat, k ≤ l.length ∧ i = .int .i64 k) ∧ Below w.heap.size w wr) (fun i _ => l.length - (intOf i).toNat)
  case atStart => exact ⟨⟨0, Nat.zero_le _, rfl⟩, Below.refl _ _⟩
  case round =>
    obtain ⟨⟨k, hk, rfl⟩, hb⟩ := hrel
    by_cases hlt : k < l.length
    · obtain ⟨g, off, vs, fi, rfl, hg, hfi, hvl, hcs, hov⟩ := (h.below hb hf).elem Tree.cells_len hlt
      obtain ⟨g', off', vs', fi', rfl, hg', hfi', hvl', hcs', hov'⟩ := (h'.below hb hf').elem Tree.cells_len hlt
      have HO := hide hov
      have HO' := hide hov'
      obtain ⟨A1, c1, A2, c2, f1, f2, rfl, w0, w1, w2, o1, o2, rfl⟩ := hov.oTree
      obtain ⟨bA1, bc1, bA2, bc2, bf1, bf2, rfl, bw0, bw1, bw2, bo1, bo2, rfl⟩ := hov'.oTree
      have p0 := hcs 0 _ rfl
      have q0 := hcs' 0 _ rfl
      have p1 := hcs 1 _ rfl
      have q1 := hcs' 1 _ rfl
      have p2 := hcs 2 _ rfl
      have q2 := hcs' 2 _ rfl
      have p3 := hcs 3 _ rfl
      have q3 := hcs' 3 _ rfl
      have p4 := hcs 4 _ rfl
      have q4 := hcs' 4 _ rfl
      simp only [Nat.add_zero] at p0 q0
      have HC := hide (ih _ (List.getElem_mem hlt))
      clear hcs hcs' hov hov'
      generalize l[k] = x at *
      go_wp2_with fail
      go_still_tail 8, (by kernel_rfl)
      change wpList _ _ _ _ _ wr.drew
      go_wp2_with fail
      refine (HC.out _ _ _ _ _ (HO.out.drewN 1) (HO'.out.drewN 1) (hf.sub hfi |>.mono hb.size) (hf'.sub hfi' |>.mono hb.size)).mono ?_
      rintro e w1 ⟨rfl, hb1⟩
      go_wp2
      go_roundw
      case rel => exact ⟨⟨k + 1, by omega, by go_num⟩, (below_drewN hb 1).trans (hb1.mono hb.size)⟩
      case measure => simp [intOf]; omega
    · obtain rfl : k = l.length := by omega
      go_wp2
      go_ret
      exact ⟨rfl, hb⟩

theorem eqTree_any (x : Tree) : EqTree x := Tree.ind (fun k ih => eqTree_of k (eqTreeS_of _ ih)) x
theorem eqTreeS_any (l : List Tree) : EqTreeS l := eqTreeS_of l fun x _ => eqTree_any x

end Go.Proofs.Ytbjblchhenmgjaa
namespace Go.Proofs.Ytbjblchhenmgjaa
open Go.ChangeShapes Go.WideShapes Go.ChangeAt Go.RowKit

def TextAt (s : ByteArray) (k : Nat) (h : k < s.size) : Prop := 32 ≤ (s[k].toNat : Int) ∧ (s[k].toNat : Int) ≤ 126 ∧ (s[k].toNat : Int) ≠ 34
def TextOk (s : ByteArray) : Prop := s.size ≤ 60 ∧ ∀ k (h : k < s.size), TextAt s k h

set_option maxRecDepth 100000 in
theorem isText_any (s : ByteArray) (w : World) (hs : s.size ≤ maxLen) :
    Calls Try.prog 231 #[.string s] w fun e w' => e = .returned (.bool (tb (TextOk s))) ∧ w = w' := by
  unfold maxLen at hs
  go_enter Try.func231, Try.ntmps231
  go_wp2
  go_loop [6] (fun i => ∃ k : Nat, k ≤ s.size ∧ i = .int .i64 k ∧ ∀ j (h : j < s.size), j < k → TextAt s j h) (fun i => s.size - (intOf i).toNat)
  case atStart => exact ⟨0, Nat.zero_le _, rfl, fun j h hj => by omega⟩
  case round =>
    obtain ⟨k, hk, rfl, ha⟩ := hrel
    have HA := hide ha
    clear ha
    by_cases hlt : k < s.size
    · go_wp2
      all_goals first
        | (go_ret; exact ⟨ret_bool (by rw [tb_false (fun h => by have := h.2 k hlt; unfold TextAt at this; (try simp only [beq_iff_eq, beq_eq_false_iff_ne, Bool.not_eq_true', Bool.not_eq_false', decide_eq_true_eq, decide_eq_false_iff_not] at *); omega)]), rfl⟩)
        | (go_round
           case rel => exact ⟨k + 1, by omega, by go_num, fun j h hj => by
             by_cases e : j < k
             · exact HA.out j h e
             · obtain rfl : j = k := by omega
               unfold TextAt
               (try simp only [beq_iff_eq, beq_eq_false_iff_ne, Bool.not_eq_true', Bool.not_eq_false', decide_eq_true_eq, decide_eq_false_iff_not] at *); omega⟩
           case measure => simp [intOf]; omega)
    · obtain rfl : k = s.size := by omega
      have HT := hide (show TextOk s ↔ (s.size : Int) ≤ 60 from ⟨fun h => by have := h.1; omega, fun h => ⟨by omega, fun k h => HA.out k h h⟩⟩)
      go_wp2
      go_ret
      refine ⟨ret_bool ?_, rfl⟩
      by_cases h : (s.size : Int) ≤ 60
      · rw [tb_true (HT.out.2 h)]; simpa using h
      · rw [tb_false (fun h' => h (HT.out.1 h'))]; simpa using h

set_option maxRecDepth 100000 in
theorem l1TextOk_any (s : ByteArray) (w : World) (hs : s.size ≤ maxLen) :
    Calls Try.prog 272 #[.string s] w fun e w' => e = .returned (.bool (tb (TextOk s))) ∧ w = w' := by
  unfold maxLen at hs
  by_cases h60 : (s.size : Int) ≤ 60
  · go_enter Try.func272, Try.ntmps272
    go_wp2
    go_loop [3] (fun i => ∃ k : Nat, k ≤ s.size ∧ i = .int .i64 k ∧ ∀ j (h : j < s.size), j < k → TextAt s j h) (fun i => s.size - (intOf i).toNat)
    case atStart => exact ⟨0, Nat.zero_le _, rfl, fun j h hj => by omega⟩
    case round =>
      obtain ⟨k, hk, rfl, ha⟩ := hrel
      have HA := hide ha
      clear ha
      by_cases hlt : k < s.size
      · go_wp2
        all_goals first
          | (go_ret; exact ⟨ret_bool (by rw [tb_false (fun h => by have := h.2 k hlt; unfold TextAt at this; (try simp only [beq_iff_eq, beq_eq_false_iff_ne, Bool.not_eq_true', Bool.not_eq_false', decide_eq_true_eq, decide_eq_false_iff_not] at *); omega)]), rfl⟩)
          | (go_round
             case rel => exact ⟨k + 1, by omega, by go_num, fun j h hj => by
               by_cases e : j < k
               · exact HA.out j h e
               · obtain rfl : j = k := by omega
                 unfold TextAt
                 (try simp only [beq_iff_eq, beq_eq_false_iff_ne, Bool.not_eq_true', Bool.not_eq_false', decide_eq_true_eq, decide_eq_false_iff_not] at *); omega⟩
             case measure => simp [intOf]; omega)
      · obtain rfl : k = s.size := by omega
        go_wp2
        go_ret
        exact ⟨ret_bool (by rw [tb_true ⟨by omega, fun k h => HA.out k h h⟩]), rfl⟩
  · go_enter Try.func272, Try.ntmps272
    go_wp2
    go_ret
    exact ⟨ret_bool (by rw [tb_false (fun h => by have := h.1; omega)]), rfl⟩

theorem isNum_any (n : Int) (w : World) :
    Calls Try.prog 230 #[.int .i64 n] w fun e w' => e = .returned (.bool (tb (-999999999 ≤ n ∧ n ≤ 999999999))) ∧ w = w' := by
  go_enter Try.func230, Try.ntmps230
  go_wp2_with fail
  refine (inRange_any _ _ _ _).mono ?_
  rintro e w' ⟨rfl, rfl⟩
  go_wp2
  go_ret
  exact ⟨rfl, rfl⟩

theorem tb_iff {p : Prop} : tb p = true ↔ p := by
  refine ⟨fun h => ?_, tb_true⟩
  by_cases hp : p
  · exact hp
  · rw [tb_false hp] at h
    cases h
theorem tb_eq {p : Prop} {b : Bool} (h : p ↔ b = true) : b = tb p := by
  cases b with
  | true => rw [tb_true (h.2 rfl)]
  | false => rw [tb_false (fun hp => by cases h.1 hp)]


def Tree.shape (t : Tree) : Prop :=
  (t.sort = 1 ∧ (-999999999 ≤ t.num ∧ t.num ≤ 999999999) ∧ t.text.toList = [] ∧ t.names.length = 0 ∧ t.kids.length = 0) ∨
  (t.sort = 2 ∧ t.num = 0 ∧ TextOk t.text ∧ t.names.length = 0 ∧ t.kids.length = 0) ∨
  (t.sort = 3 ∧ (0 ≤ t.num ∧ t.num ≤ 1) ∧ t.text.toList = [] ∧ t.names.length = 0 ∧ t.kids.length = 0) ∨
  (t.sort = 4 ∧ t.num = 0 ∧ t.text.toList = [] ∧ t.names.length = 0 ∧ t.kids.length ≤ 20) ∨
  (t.sort = 5 ∧ t.num = 0 ∧ t.text.toList = [] ∧ NamesOk t.names ∧ t.names.length = t.kids.length) ∨
  (t.sort = 6 ∧ t.num = 0 ∧ t.text.toList = [] ∧ t.names.length = 0 ∧ t.kids.length ≤ 1)

end Go.Proofs.Ytbjblchhenmgjaa
