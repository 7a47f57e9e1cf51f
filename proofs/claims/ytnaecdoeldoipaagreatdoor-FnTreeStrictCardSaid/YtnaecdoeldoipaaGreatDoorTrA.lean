/-
  Event as data: its cells, its size. Event: what the laws' own helpers do: the size, a copy, equality. The text of a tree: the reference's l1Text. Tree: what the laws' marks write, and that they are found again. The laws' marks at a Tree by value: only its slices are marked. The text of a tree: the program's write, and TreeWrite. TreeRead of the reference. TreeRead of the program; how much the marks count at what is read. Events that are ok: the program's and the reference's EventOk answer alike. An event as text: both sides.
-/
import Derived.Test.YtnaecdoeldoipaaGreatDoorStr
import Derived.Test.YtnaecdoeldoipaaGreatDoorDTree
import Derived.Test.YtnaecdoeldoipaaGreatDoorHTree
import Derived.Test.YtnaecdoeldoipaaGreatDoorTreeText
import Derived.Test.YtnaecdoeldoipaaGreatDoorDecZ
import Derived.Test.YtnaecdoeldoipaaGreatDoorMark
import Derived.Test.YtnaecdoeldoipaaGreatDoorJoined
import Derived.Deep.Cut
import Derived.Test.YtnaecdoeldoipaaGreatDoorTrS4
import Derived.Test.YtnaecdoeldoipaaGreatDoorTrT
import Derived.Test.YtnaecdoeldoipaaGreatDoorTrP2
import Derived.Test.YtnaecdoeldoipaaGreatDoorTrB
import Derived.Test.YtnaecdoeldoipaaGreatDoorTreeParts
import Derived.Deep.RegionHeld3
set_option linter.unusedVariables false
set_option linter.unusedSimpArgs false
namespace Go.Proofs.YtnaecdoeldoipaaGreatDoor
open Go.ChangeShapes Go.WideShapes Go.ChangeAt Go.RowKit

structure Event where
  type_ : ByteArray
  version : Int
  body : Tree
def Event.cells (x : Event) : List D := [.v (.string x.type_), .v (.int .i64 x.version), .v (.int .i64 x.body.sort), .v (.int .i64 x.body.num), .v (.string x.body.text), .s 1 x.body.names.length (x.body.names.flatMap strC), .s 5 x.body.kids.length (x.body.kids.flatMap Tree.cells)]
theorem Event.cells_eq (x : Event) : x.cells = [.v (.string x.type_), .v (.int .i64 x.version), .v (.int .i64 x.body.sort), .v (.int .i64 x.body.num), .v (.string x.body.text), .s 1 x.body.names.length (x.body.names.flatMap strC), .s 5 x.body.kids.length (x.body.kids.flatMap Tree.cells)] := rfl
def Event.bulk (x : Event) : Nat := x.type_.size + x.body.bulk
theorem Event.bulk_eq (x : Event) : x.bulk = x.type_.size + x.body.bulk := rfl
def Event.bulkS : List Event → Nat
  | [] => 0
  | x :: r => x.bulk + Event.bulkS r
theorem Event.cells_len (x : Event) : x.cells.length = 7 := by rw [Event.cells_eq]; rfl
def Event.bulkL (l : List Event) : Nat := l.length + Event.bulkS l
theorem Event.bulkS_append (a b : List Event) : Event.bulkS (a ++ b) = Event.bulkS a + Event.bulkS b := by
  induction a with
  | nil => simp [Event.bulkS]
  | cons x a ih => simp [Event.bulkS, ih]; omega
theorem Event.bulkS_snoc (l : List Event) (k : Nat) (h : k < l.length) : Event.bulkS (l.take (k + 1)) = Event.bulkS (l.take k) + l[k].bulk := by
  rw [List.take_succ_eq_append_getElem h, Event.bulkS_append]
  simp [Event.bulkS]
theorem Event.bulkS_le (l : List Event) (k : Nat) : Event.bulkS (l.take k) ≤ Event.bulkS l := by
  conv => rhs; rw [← List.take_append_drop k l, Event.bulkS_append]
  omega
theorem Event.bulk_at (l : List Event) (k : Nat) (h : k < l.length) : l[k].bulk ≤ Event.bulkS l := by
  have h1 := Event.bulkS_snoc l k h
  have h2 := Event.bulkS_le l (k + 1)
  omega
theorem Event.cells_snoc (l : List Event) (k : Nat) (h : k < l.length) : (l.take (k + 1)).flatMap Event.cells = (l.take k).flatMap Event.cells ++ l[k].cells := by
  rw [List.take_succ_eq_append_getElem h, List.flatMap_append]
  simp
theorem OwC.oEvent {w : World} {x : Event} {us : List Value} {fp : List Nat} (h : OwC w x.cells us fp) :
    ∃ A1 c1 A2 c2 f1 f2, us = [.string x.type_, .int .i64 x.version, .int .i64 x.body.sort, .int .i64 x.body.num, .string x.body.text, .slice A1 x.body.names.length c1, .slice A2 x.body.kids.length c2] ∧ x.type_.size ≤ maxLen ∧ (Lit.int .i64 x.version).wf = true ∧ (Lit.int .i64 x.body.sort).wf = true ∧ (Lit.int .i64 x.body.num).wf = true ∧ x.body.text.size ≤ maxLen ∧ Ow w (.s 1 x.body.names.length (x.body.names.flatMap strC)) (.slice A1 x.body.names.length c1) f1 ∧ Ow w (.s 5 x.body.kids.length (x.body.kids.flatMap Tree.cells)) (.slice A2 x.body.kids.length c2) f2 ∧ fp = f1 ++ (f2) := by
  rw [Event.cells_eq] at h
  match us, OwC.length _ h with
  | [u0, u1, u2, u3, u4, u5, u6], _ =>
    simp only [OwC] at h
    obtain ⟨g0, _, h0, ⟨g1, _, h1, ⟨g2, _, h2, ⟨g3, _, h3, ⟨g4, _, h4, ⟨g5, _, h5, ⟨g6, _, h6, rfl, rfl⟩, rfl⟩, rfl⟩, rfl⟩, rfl⟩, rfl⟩, rfl⟩ := h
    simp only [Ow, okAtom] at h0
    obtain ⟨rfl, w0, rfl⟩ := h0
    simp only [Ow, okAtom] at h1
    obtain ⟨rfl, w1, rfl⟩ := h1
    simp only [Ow, okAtom] at h2
    obtain ⟨rfl, w2, rfl⟩ := h2
    simp only [Ow, okAtom] at h3
    obtain ⟨rfl, w3, rfl⟩ := h3
    simp only [Ow, okAtom] at h4
    obtain ⟨rfl, w4, rfl⟩ := h4
    obtain ⟨A1, c1, rfl, _⟩ := h5.slice
    obtain ⟨A2, c2, rfl, _⟩ := h6.slice
    exact ⟨A1, c1, A2, c2, g5, g6, rfl, w0, w1, w2, w3, w4, h5, h6, by simp⟩
theorem OwC.mEvent {w : World} {x : Event} {v1 v2 : Value} {f1 f2 : List Nat} (w0 : x.type_.size ≤ maxLen) (w1 : (Lit.int .i64 x.version).wf = true) (w2 : (Lit.int .i64 x.body.sort).wf = true) (w3 : (Lit.int .i64 x.body.num).wf = true) (w4 : x.body.text.size ≤ maxLen) (h5 : Ow w (.s 1 x.body.names.length (x.body.names.flatMap strC)) v1 f1) (h6 : Ow w (.s 5 x.body.kids.length (x.body.kids.flatMap Tree.cells)) v2 f2) :
    OwC w x.cells [.string x.type_, .int .i64 x.version, .int .i64 x.body.sort, .int .i64 x.body.num, .string x.body.text, v1, v2] (f1 ++ (f2)) := by
  have h : OwC w x.cells [.string x.type_, .int .i64 x.version, .int .i64 x.body.sort, .int .i64 x.body.num, .string x.body.text, v1, v2] ([] ++ ([] ++ ([] ++ ([] ++ ([] ++ (f1 ++ (f2 ++ ([])))))))) := by
    rw [Event.cells_eq]
    exact ⟨_, _, ⟨rfl, w0, rfl⟩, ⟨_, _, ⟨rfl, w1, rfl⟩, ⟨_, _, ⟨rfl, w2, rfl⟩, ⟨_, _, ⟨rfl, w3, rfl⟩, ⟨_, _, ⟨rfl, w4, rfl⟩, ⟨_, _, h5, ⟨_, _, h6, rfl, rfl⟩, rfl⟩, rfl⟩, rfl⟩, rfl⟩, rfl⟩, rfl⟩
  simpa using h
end Go.Proofs.YtnaecdoeldoipaaGreatDoor
set_option linter.unusedVariables false
set_option linter.unusedSimpArgs false
namespace Go.Proofs.YtnaecdoeldoipaaGreatDoor
open Go.ChangeShapes Go.WideShapes Go.ChangeAt Go.RowKit



def EqEvent (x : Event) : Prop := ∀ (us vs : List Value) (fp fq : List Nat) (w : World), OwC w x.cells us fp → OwC w x.cells vs fq → Lt fp w.heap.size → Lt fq w.heap.size →
  Calls Tryz.prog 26 #[.agg us.toArray, .agg vs.toArray] w fun e w' => e = .returned (.bool true) ∧ Below w.heap.size w w'
set_option maxRecDepth 100000 in
theorem eqEvent_of (x : Event) : EqEvent x := by
  intro us vs fp fq w ho ho' hf hf'
  obtain ⟨A1, c1, A2, c2, f1, f2, rfl, w0, w1, w2, w3, w4, o1, o2, rfl⟩ := ho.oEvent
  obtain ⟨bA1, bc1, bA2, bc2, bf1, bf2, rfl, bw0, bw1, bw2, bw3, bw4, bo1, bo2, rfl⟩ := ho'.oEvent
  have l1 := hf.left
  have l2 := hf.right
  have k1 := hf'.left
  have k2 := hf'.right
  have hB0 : Below w.heap.size w ((w.alloc (.cells #[.string x.type_, .int .i64 x.version, .int .i64 x.body.sort, .int .i64 x.body.num, .string x.body.text, .slice A1 x.body.names.length c1, .slice A2 x.body.kids.length c2] 46)).alloc (.cells #[.string x.type_, .int .i64 x.version, .int .i64 x.body.sort, .int .i64 x.body.num, .string x.body.text, .slice bA1 x.body.names.length bc1, .slice bA2 x.body.kids.length bc2] 46)) := ((Below.refl _ _).alloc (Nat.le_refl _) _).alloc (by simp) _
  have R0 : Row ((w.alloc (.cells #[.string x.type_, .int .i64 x.version, .int .i64 x.body.sort, .int .i64 x.body.num, .string x.body.text, .slice A1 x.body.names.length c1, .slice A2 x.body.kids.length c2] 46)).alloc (.cells #[.string x.type_, .int .i64 x.version, .int .i64 x.body.sort, .int .i64 x.body.num, .string x.body.text, .slice bA1 x.body.names.length bc1, .slice bA2 x.body.kids.length bc2] 46)) w.heap.size 46 [.string x.type_, .int .i64 x.version, .int .i64 x.body.sort, .int .i64 x.body.num, .string x.body.text, .slice A1 x.body.names.length c1, .slice A2 x.body.kids.length c2] := (Row.new w _ _).alloc _
  have S0 : Row ((w.alloc (.cells #[.string x.type_, .int .i64 x.version, .int .i64 x.body.sort, .int .i64 x.body.num, .string x.body.text, .slice A1 x.body.names.length c1, .slice A2 x.body.kids.length c2] 46)).alloc (.cells #[.string x.type_, .int .i64 x.version, .int .i64 x.body.sort, .int .i64 x.body.num, .string x.body.text, .slice bA1 x.body.names.length bc1, .slice bA2 x.body.kids.length bc2] 46)) (w.heap.size + 1) 46 [.string x.type_, .int .i64 x.version, .int .i64 x.body.sort, .int .i64 x.body.num, .string x.body.text, .slice bA1 x.body.names.length bc1, .slice bA2 x.body.kids.length bc2] := by
    have h := Row.new (w.alloc (.cells #[.string x.type_, .int .i64 x.version, .int .i64 x.body.sort, .int .i64 x.body.num, .string x.body.text, .slice A1 x.body.names.length c1, .slice A2 x.body.kids.length c2] 46)) 46 [.string x.type_, .int .i64 x.version, .int .i64 x.body.sort, .int .i64 x.body.num, .string x.body.text, .slice bA1 x.body.names.length bc1, .slice bA2 x.body.kids.length bc2]
    simpa using h
  clear ho ho'
  go_enter Tryz.func26, Tryz.ntmps26
  go_wp2_with fail
  refine (eqTree_any _ _ _ _ _ _ (OwC.mTree w2 w3 w4 (o1.below hB0 l1) (o2.below hB0 l2)) (OwC.mTree w2 w3 w4 (bo1.below hB0 k1) (bo2.below hB0 k2)) ((l1.app l2).up hB0) ((k1.app k2).up hB0)).mono ?_
  rintro e w1_ ⟨rfl, hb1⟩
  have hB1 := hB0.trans (hb1.mono hB0.size)
  have R1 := R0.below hb1 R0.lt
  have S1 := S0.below hb1 S0.lt
  go_wp2
  go_ret
  exact ⟨rfl, hB1⟩
theorem eqEvent_any (x : Event) : EqEvent x := eqEvent_of x

end Go.Proofs.YtnaecdoeldoipaaGreatDoor
set_option linter.unusedVariables false
set_option linter.unusedSimpArgs false
namespace Go.Proofs.YtnaecdoeldoipaaGreatDoor
open Go.ChangeShapes Go.WideShapes Go.ChangeAt Go.RowKit

def TextTree (k : Tree) : Prop := ∀ (us : List Value) (fp : List Nat) (lv : Nat) (w : World), OwC w k.cells us fp → Lt fp w.heap.size → k.bulk ≤ 1048576 → k.good lv → k.parts ≤ 120 →
  Calls Tryz.prog 43 #[.agg us.toArray] w fun e w' => e = .returned (.string k.wr) ∧ Below w.heap.size w w'
theorem kidHead_list (ns : List ByteArray) (i : Nat) : kidHead 4 ns i = if i = 0 then ⟨#[]⟩ else ⟨#[44]⟩ := by
  unfold kidHead
  rw [if_neg (show ¬ ((4 : Int) = 5) by omega)]
  exact ByteArray.append_empty
theorem kidHead_form {ns : List ByteArray} {i : Nat} (h : i < ns.length) : kidHead 5 ns i = (if i = 0 then ⟨#[]⟩ else ⟨#[44]⟩) ++ (ns[i] ++ ⟨#[58]⟩) := by
  unfold kidHead
  rw [if_pos rfl, List.getElem?_eq_getElem h]
  rfl
theorem ba_e (a : ByteArray) : (⟨#[]⟩ : ByteArray) ++ a = a := ByteArray.empty_append
set_option maxRecDepth 100000 in
set_option maxHeartbeats 8000000 in
theorem textTree_of (k : Tree) (ih : ∀ x ∈ k.kids, TextTree x) : TextTree k := by
  intro us fp lv w ho hf hbk hg hp
  obtain ⟨A1, c1, A2, c2, f1, f2, rfl, w0, w1, w2, o1, o2, rfl⟩ := ho.oTree
  clear ho
  have hgk := (Tree.good_iff _ _).1 hg
  have hpk := k.parts_eq
  have hkb := k.bulk_eq
  unfold bulkStrs at hkb
  have hsz := Tree.wr_size k lv hg
  have HT := hide k.wr_eq
  have s1 : (ByteArray.mk #[91]).size = 1 := rfl
  have s2 : (ByteArray.mk #[93]).size = 1 := rfl
  have s3 : (ByteArray.mk #[63]).size = 1 := rfl
  have s4 : (ByteArray.mk #[123]).size = 1 := rfl
  have s5 : (ByteArray.mk #[125]).size = 1 := rfl
  have s6 : (ByteArray.mk #[44]).size = 1 := rfl
  have s7 : (ByteArray.mk #[58]).size = 1 := rfl
  have s8 : (ByteArray.mk #[34]).size = 1 := rfl
  have hw1 : Below w.heap.size w (w.alloc (.cells #[.int .i64 k.sort, .int .i64 k.num, .string k.text, .slice A1 k.names.length c1, .slice A2 k.kids.length c2] 26)) := (Below.refl _ _).alloc (Nat.le_refl _) _
  have R1 : Row (w.alloc (.cells #[.int .i64 k.sort, .int .i64 k.num, .string k.text, .slice A1 k.names.length c1, .slice A2 k.kids.length c2] 26)) w.heap.size 26 [.int .i64 k.sort, .int .i64 k.num, .string k.text, .slice A1 k.names.length c1, .slice A2 k.kids.length c2] := Row.new w _ _
  have HR := hide hw1
  rcases hgk.2.1 with ⟨h1, h2, -⟩ | ⟨h1, -, h3, -⟩ | ⟨h1, h2, -⟩ | ⟨h1, -, -, h4, h5⟩ | ⟨h1, -, -, h4, h5⟩ | ⟨h1, -, -, h4, h5⟩
  · have HD := hide (fun W => specDecZ_any k.num (by omega) (by omega) W)
    have HE := hide (show k.wr = dec k.num from by rw [HT.out, if_pos h1])
    clear o1 o2 hw1 R1 ih hg hgk hkb h2
    generalize k.sort = s at *
    subst h1
    go_enter Tryz.func43, Tryz.ntmps43
    go_wp2_with fail
    refine (HD.out _).mono ?_
    rintro e w3 ⟨rfl, hb3⟩
    go_wp2
    go_ret
    exact ⟨ret_str HE.out.symm, HR.out.trans (hb3.mono HR.out.size)⟩
  · have hx := h3.1
    have HE := hide (show k.wr = ⟨#[34]⟩ ++ k.text ++ ⟨#[34]⟩ from by rw [HT.out, if_neg (by omega), if_pos h1])
    clear o1 o2 hw1 R1 ih hg hgk hkb h3
    generalize k.sort = s at *
    generalize k.text = x at *
    subst h1
    go_enter Tryz.func43, Tryz.ntmps43
    go_wp2
    go_ret
    exact ⟨ret_str HE.out.symm, HR.out⟩
  · have HE := hide (show k.wr = if k.num = 1 then ⟨#[121, 101, 115]⟩ else ⟨#[110, 111]⟩ from by rw [HT.out, if_neg (by omega), if_neg (by omega), if_pos h1])
    clear o1 o2 hw1 R1 ih hg hgk hkb
    generalize k.sort = s at *
    subst h1
    by_cases hn : k.num = 1
    · rw [if_pos hn] at HE
      generalize k.num = n at *
      subst hn
      go_enter Tryz.func43, Tryz.ntmps43
      go_wp2
      go_ret
      exact ⟨ret_str HE.out.symm, HR.out⟩
    · rw [if_neg hn] at HE
      generalize k.num = n at *
      go_enter Tryz.func43, Tryz.ntmps43
      go_wp2
      go_ret
      exact ⟨ret_str HE.out.symm, HR.out⟩
  · have HE := hide (show k.wr = ⟨#[91]⟩ ++ Tree.wrS 4 k.names 0 k.kids ++ ⟨#[93]⟩ from by rw [HT.out, if_neg (by omega), if_neg (by omega), if_neg (by omega), if_pos h1, h1])
    have hall := hide (fun j => by have h := Tree.wrS_take k lv hg j; rwa [h1] at h : ∀ j, (Tree.wrS 4 k.names 0 (k.kids.take j)).size ≤ 80 * Tree.partsS k.kids)
    have HK1 := hide h4
    have HK2 := hide h5
    have hnl : k.names.length ≤ 1048576 := by omega
    have hkl : k.kids.length ≤ 1048576 := by omega
    have hpp : Tree.partsS k.kids ≤ 119 := by omega
    have hbb : Tree.bulkS k.kids ≤ 1048576 := by omega
    have HI := hide ih
    have HG := hide hgk.2.2
    have HO1 := hide o1
    have HO2 := hide o2
    have HF1 := hide hf.left
    have HF2 := hide hf.right
    rw [h1] at R1 HR ⊢
    have HRW := hide R1
    have c10 := R1.cell 0
    have c30 := R1.cell 3
    have c40 := R1.cell 4
    have z0 := R1.lt
    clear o1 o2 hw1 R1 ih hg hgk hsz hpk hkb hp hbk hf HT h4 h5 h1 w0
    go_enter Tryz.func43, Tryz.ntmps43
    go_wp2
    go_loopw [3, 4] (fun o i wr => (∃ j : Nat, j ≤ k.kids.length ∧ i = .int .i64 (j : Int) ∧ o = .string (Tree.wrS 4 k.names 0 (k.kids.take j)) ∧ Row wr w.heap.size 26 [.int .i64 4, .int .i64 k.num, .string k.text, .slice A1 k.names.length c1, .slice A2 k.kids.length c2]) ∧ Below w.heap.size w wr) (fun _ i _ => k.kids.length - (intOf i).toNat)
    case atStart => exact ⟨⟨0, Nat.zero_le _, rfl, by simp [Tree.wrS]; rfl, HRW.out⟩, HR.out⟩
    case round =>
      obtain ⟨⟨j, hj, rfl, rfl, hrow⟩, hbel⟩ := hrel
      have HB := hide hbel
      have HW := hide hrow
      clear c10 c30 c40 z0
      have e0 := hrow.cell 0
      have e3 := hrow.cell 3
      have e4 := hrow.cell 4
      have el := hrow.lt
      clear hbel hrow
      by_cases hlt : j < k.kids.length
      · have hltI : (j : Int) < (k.kids.length : Int) := by omega
        have hj0 : (0 : Int) ≤ (j : Int) := by omega
        obtain ⟨g, off, vs, fi, rfl, hgm, hfi, hvl, hcs, hov⟩ := (HO2.out.below HB.out HF2.out).elem Tree.cells_len hlt
        have hov' := hide hov
        obtain ⟨B1, d1, B2, d2, q1, q2, rfl, v0, v1, v2, x1, x2, rfl⟩ := hov.oTree
        have p0 := hcs 0 _ rfl
        have p1 := hcs 1 _ rfl
        have p2 := hcs 2 _ rfl
        have p3 := hcs 3 _ rfl
        have p4 := hcs 4 _ rfl
        simp only [Nat.add_zero] at p0
        have hgl := (HF2.out.up HB.out) g hgm
        have hfq := hide (((HF2.out).up HB.out).sub hfi)
        have HC := hide (HI.out _ (List.getElem_mem hlt))
        have hgx := hide (Tree.goodS_mem _ _ HG.out _ (List.getElem_mem hlt))
        have hpx := Tree.partsS_at k.kids j hlt
        have hbx := Tree.bulk_at k.kids j hlt
        have hsx := Tree.wr_size _ _ hgx.out
        have hcur := hall.out j
        have HS := hide ((Tree.wrS_snoc 4 k.names k.kids 0 j hlt).trans (by rw [Nat.zero_add, kidHead_list]))
        clear x1 x2 hov hcs
        generalize k.kids[j] = x at *
        generalize Tree.wrS 4 k.names 0 (k.kids.take j) = cur at *
        by_cases hz : j = 0
        · rw [if_pos hz] at HS
          subst hz
          simp only [Nat.zero_mul, Nat.add_zero] at p0 p1 p2 p3 p4
          go_wp2_with fail
          refine (HC.out _ _ (lv + 1) _ hov'.out hfq.out (by omega) hgx.out (by omega)).mono ?_
          rintro e w2 ⟨rfl, hb2⟩
          have HH := hide (HB.out.trans (hb2.mono HB.out.size))
          have HQ := hide (HW.out.below hb2 HW.out.lt)
          clear hb2
          go_wp2
          go_roundw
          case rel => exact ⟨⟨1, by omega, by go_num, by rw [show (1 : Nat) = 0 + 1 from rfl, HS.out]; simp only [ByteArray.append_assoc, ba_e], HQ.out⟩, HH.out⟩
          case measure => simp [intOf]; omega
        · rw [if_neg hz] at HS
          have hzI : (0 : Int) < (j : Int) := by omega
          go_wp2_with fail
          refine (HC.out _ _ (lv + 1) _ hov'.out hfq.out (by omega) hgx.out (by omega)).mono ?_
          rintro e w2 ⟨rfl, hb2⟩
          have HH := hide (HB.out.trans (hb2.mono HB.out.size))
          have HQ := hide (HW.out.below hb2 HW.out.lt)
          clear hb2
          go_wp2
          go_roundw
          case rel => exact ⟨⟨j + 1, by omega, by go_num, by rw [HS.out]; simp only [ByteArray.append_assoc, ba_e], HQ.out⟩, HH.out⟩
          case measure => simp [intOf]; omega
      · obtain rfl : j = k.kids.length := by omega
        have hfull := hall.out k.kids.length
        have HF := hide (show k.wr = ⟨#[91]⟩ ++ Tree.wrS 4 k.names 0 (k.kids.take k.kids.length) ++ ⟨#[93]⟩ from by rw [HE.out, List.take_length])
        generalize Tree.wrS 4 k.names 0 (k.kids.take k.kids.length) = cur at *
        go_wp2
        go_ret
        exact ⟨ret_str HF.out.symm, HB.out⟩
  · have HE := hide (show k.wr = ⟨#[123]⟩ ++ Tree.wrS 5 k.names 0 k.kids ++ ⟨#[125]⟩ from by rw [HT.out, if_neg (by omega), if_neg (by omega), if_neg (by omega), if_neg (by omega), if_pos h1, h1])
    have hall := hide (fun j => by have h := Tree.wrS_take k lv hg j; rwa [h1] at h : ∀ j, (Tree.wrS 5 k.names 0 (k.kids.take j)).size ≤ 80 * Tree.partsS k.kids)
    have HK1 := hide h4
    have HK2 := hide h5
    have hnl : k.names.length ≤ 1048576 := by omega
    have hkl : k.kids.length ≤ 1048576 := by omega
    have hpp : Tree.partsS k.kids ≤ 119 := by omega
    have hbb : Tree.bulkS k.kids ≤ 1048576 := by omega
    have HI := hide ih
    have HG := hide hgk.2.2
    have HO1 := hide o1
    have HO2 := hide o2
    have HF1 := hide hf.left
    have HF2 := hide hf.right
    rw [h1] at R1 HR ⊢
    have HRW := hide R1
    have c10 := R1.cell 0
    have c30 := R1.cell 3
    have c40 := R1.cell 4
    have z0 := R1.lt
    clear o1 o2 hw1 R1 ih hg hgk hsz hpk hkb hp hbk hf HT h4 h5 h1 w0
    go_enter Tryz.func43, Tryz.ntmps43
    go_wp2
    go_loopw [3, 4] (fun o i wr => (∃ j : Nat, j ≤ k.kids.length ∧ i = .int .i64 (j : Int) ∧ o = .string (Tree.wrS 5 k.names 0 (k.kids.take j)) ∧ Row wr w.heap.size 26 [.int .i64 5, .int .i64 k.num, .string k.text, .slice A1 k.names.length c1, .slice A2 k.kids.length c2]) ∧ Below w.heap.size w wr) (fun _ i _ => k.kids.length - (intOf i).toNat)
    case atStart => exact ⟨⟨0, Nat.zero_le _, rfl, by simp [Tree.wrS]; rfl, HRW.out⟩, HR.out⟩
    case round =>
      obtain ⟨⟨j, hj, rfl, rfl, hrow⟩, hbel⟩ := hrel
      have HB := hide hbel
      have HW := hide hrow
      clear c10 c30 c40 z0
      have e0 := hrow.cell 0
      have e3 := hrow.cell 3
      have e4 := hrow.cell 4
      have el := hrow.lt
      clear hbel hrow
      by_cases hlt : j < k.kids.length
      · have hltI : (j : Int) < (k.kids.length : Int) := by omega
        have hj0 : (0 : Int) ≤ (j : Int) := by omega
        obtain ⟨g, off, vs, fi, rfl, hgm, hfi, hvl, hcs, hov⟩ := (HO2.out.below HB.out HF2.out).elem Tree.cells_len hlt
        have hov' := hide hov
        obtain ⟨B1, d1, B2, d2, q1, q2, rfl, v0, v1, v2, x1, x2, rfl⟩ := hov.oTree
        have p0 := hcs 0 _ rfl
        have p1 := hcs 1 _ rfl
        have p2 := hcs 2 _ rfl
        have p3 := hcs 3 _ rfl
        have p4 := hcs 4 _ rfl
        simp only [Nat.add_zero] at p0
        have hgl := (HF2.out.up HB.out) g hgm
        have hfq := hide (((HF2.out).up HB.out).sub hfi)
        have HC := hide (HI.out _ (List.getElem_mem hlt))
        have hgx := hide (Tree.goodS_mem _ _ HG.out _ (List.getElem_mem hlt))
        have hpx := Tree.partsS_at k.kids j hlt
        have hbx := Tree.bulk_at k.kids j hlt
        have hsx := Tree.wr_size _ _ hgx.out
        have hcur := hall.out j
        have hln : j < k.names.length := by have := HK2.out; omega
        obtain ⟨ga, oa, us, fa, rfl, hga, hfa, hul, hca, hoa⟩ := (HO1.out.below HB.out HF1.out).elem strC_len hln
        obtain ⟨rfl, hs, rfl⟩ := hoa.str
        have pa := hca 0 _ rfl
        simp only [Nat.add_zero, Nat.mul_one] at pa
        have hal := (HF1.out.up HB.out) ga hga
        have hnx : k.names[j].size ≤ 8 := (HK1.out j hln).1.2.1
        have HS := hide ((Tree.wrS_snoc 5 k.names k.kids 0 j hlt).trans (by rw [Nat.zero_add, kidHead_form hln]))
        clear hca hoa
        generalize k.names[j] = nm at *
        clear x1 x2 hov hcs
        generalize k.kids[j] = x at *
        generalize Tree.wrS 5 k.names 0 (k.kids.take j) = cur at *
        by_cases hz : j = 0
        · rw [if_pos hz] at HS
          subst hz
          simp only [Nat.zero_mul, Nat.add_zero] at p0 p1 p2 p3 p4
          simp only [Nat.add_zero] at pa
          go_wp2_with fail
          refine (HC.out _ _ (lv + 1) _ hov'.out hfq.out (by omega) hgx.out (by omega)).mono ?_
          rintro e w2 ⟨rfl, hb2⟩
          have HH := hide (HB.out.trans (hb2.mono HB.out.size))
          have HQ := hide (HW.out.below hb2 HW.out.lt)
          clear hb2
          go_wp2
          go_roundw
          case rel => exact ⟨⟨1, by omega, by go_num, by rw [show (1 : Nat) = 0 + 1 from rfl, HS.out]; simp only [ByteArray.append_assoc, ba_e], HQ.out⟩, HH.out⟩
          case measure => simp [intOf]; omega
        · rw [if_neg hz] at HS
          have hzI : (0 : Int) < (j : Int) := by omega
          go_wp2_with fail
          refine (HC.out _ _ (lv + 1) _ hov'.out hfq.out (by omega) hgx.out (by omega)).mono ?_
          rintro e w2 ⟨rfl, hb2⟩
          have HH := hide (HB.out.trans (hb2.mono HB.out.size))
          have HQ := hide (HW.out.below hb2 HW.out.lt)
          clear hb2
          go_wp2
          go_roundw
          case rel => exact ⟨⟨j + 1, by omega, by go_num, by rw [HS.out]; simp only [ByteArray.append_assoc, ba_e], HQ.out⟩, HH.out⟩
          case measure => simp [intOf]; omega
      · obtain rfl : j = k.kids.length := by omega
        have hfull := hall.out k.kids.length
        have HF := hide (show k.wr = ⟨#[123]⟩ ++ Tree.wrS 5 k.names 0 (k.kids.take k.kids.length) ++ ⟨#[125]⟩ from by rw [HE.out, List.take_length])
        generalize Tree.wrS 5 k.names 0 (k.kids.take k.kids.length) = cur at *
        go_wp2
        go_ret
        exact ⟨ret_str HF.out.symm, HB.out⟩
  · have HE := hide (show k.wr = Tree.wrM k.kids from by rw [HT.out, if_neg (by omega), if_neg (by omega), if_neg (by omega), if_neg (by omega), if_neg (by omega)])
    by_cases hk0 : k.kids.length = 0
    · have HE2 := hide (show k.wr = ⟨#[126]⟩ from by rw [HE.out, List.length_eq_zero_iff.1 hk0]; rfl)
      have q0 : ((k.kids.length : Int) == 0) = true := by simp [hk0]
      clear o1 o2 hw1 R1 ih hg hgk hkb HE h4 h5 hk0
      generalize k.sort = s at *
      subst h1
      go_enter Tryz.func43, Tryz.ntmps43
      go_wp2
      go_ret
      exact ⟨ret_str HE2.out.symm, HR.out⟩
    · have hlt : 0 < k.kids.length := by omega
      have hk1 : k.kids.length = 1 := by omega
      obtain ⟨g, off, vs, fi, rfl, hgm, hfi, hvl, hcs, hov⟩ := (o2.below hw1 hf.right).elem Tree.cells_len hlt
      have hov' := hide hov
      obtain ⟨B1, d1, B2, d2, q1, q2, rfl, v0, v1, v2, x1, x2, rfl⟩ := hov.oTree
      have p0 := hcs 0 _ rfl
      have p1 := hcs 1 _ rfl
      have p2 := hcs 2 _ rfl
      have p3 := hcs 3 _ rfl
      have p4 := hcs 4 _ rfl
      simp only [Nat.zero_mul, Nat.add_zero] at p0 p1 p2 p3 p4
      have hgl := ((hf.right).up hw1) g hgm
      have hfq := hide (((hf.right).up hw1).sub hfi)
      have HC := hide (ih _ (List.getElem_mem hlt))
      have HTK := hide (HE.out.trans (Tree.wrM_at k.kids hlt))
      have hgx := hide (Tree.goodS_mem _ _ hgk.2.2 _ (List.getElem_mem hlt))
      have hpx := Tree.partsS_at k.kids 0 hlt
      have hbx := Tree.bulk_at k.kids 0 hlt
      have hsx := Tree.wr_size _ _ hgx.out
      have q0 : ((k.kids.length : Int) == 0) = false := beq_eq_false_iff_ne.2 (by omega)
      have hltI : (0 : Int) < (k.kids.length : Int) := by omega
      clear x1 x2 hov hcs o1 o2 hw1 R1 ih hg hgk HE h4 h5 hk0 hk1
      generalize k.kids[0] = x at *
      generalize k.sort = s at *
      subst h1
      go_enter Tryz.func43, Tryz.ntmps43
      go_wp2_with fail
      refine (HC.out _ _ (lv + 1) _ hov'.out hfq.out (by omega) hgx.out (by omega)).mono ?_
      rintro e w3 ⟨rfl, hb3⟩
      go_wp2
      go_ret
      exact ⟨ret_str HTK.out.symm, HR.out.trans (hb3.mono HR.out.size)⟩
theorem textTree_any (k : Tree) : TextTree k := Tree.ind textTree_of k
set_option maxRecDepth 100000 in
set_option maxHeartbeats 1000000 in
theorem specTreeWrite_any (k : Tree) (us : List Value) (fp : List Nat) (w : World) (ho : OwC w k.cells us fp) (hf : Lt fp w.heap.size) (hbk : k.bulk ≤ 1048576) :
    Calls Tryz.prog 10 #[.agg us.toArray] w fun e w' => e = .returned (.string k.write) ∧ Below w.heap.size w w' := by
  obtain ⟨A1, c1, A2, c2, f1, f2, rfl, w0, w1, w2, o1, o2, rfl⟩ := ho.oTree
  have hw1 : Below w.heap.size w (w.alloc (.cells #[.int .i64 k.sort, .int .i64 k.num, .string k.text, .slice A1 k.names.length c1, .slice A2 k.kids.length c2] 26)) := (Below.refl _ _).alloc (Nat.le_refl _) _
  have R1 : Row (w.alloc (.cells #[.int .i64 k.sort, .int .i64 k.num, .string k.text, .slice A1 k.names.length c1, .slice A2 k.kids.length c2] 26)) w.heap.size 26 [.int .i64 k.sort, .int .i64 k.num, .string k.text, .slice A1 k.names.length c1, .slice A2 k.kids.length c2] := Row.new w _ _
  have HO := hide (ho.below hw1 hf)
  have HF := hide (hf.up hw1)
  have HR := hide R1
  have HB := hide hw1
  have HC := hide (specTreeOk_any k _ _ _ HO.out HF.out hbk)
  clear ho o1 o2 hw1 R1
  go_enter Tryz.func10, Tryz.ntmps10
  go_wp2_with fail
  refine HC.out.mono ?_
  rintro e w3 ⟨rfl, hb3⟩
  have HO3 := hide (HO.out.below hb3 HF.out)
  have HF3 := hide (HF.out.up hb3)
  have HB3 := hide (HB.out.trans (hb3.mono HB.out.size))
  have HR3 := hide (HR.out.below hb3 HR.out.lt)
  clear hb3 HC HO HF HB HR
  by_cases hok : k.ok
  · have HZ := hide (show k.write = k.wr from by unfold Tree.write; rw [if_pos (tb_true hok)])
    have HP := hide (textTree_any k _ _ 1 w3 HO3.out HF3.out hbk hok.1 (by have := hok.2; omega))
    rw [tb_true hok]
    have x0 := HR3.out.cell 0
    have x1 := HR3.out.cell 1
    have x2 := HR3.out.cell 2
    have x3 := HR3.out.cell 3
    have x4 := HR3.out.cell 4
    have xl := HR3.out.lt
    clear hok
    go_wp2_with fail
    refine HP.out.mono ?_
    rintro e w4 ⟨rfl, hb4⟩
    go_wp2
    go_ret
    exact ⟨ret_str HZ.out.symm, HB3.out.trans (hb4.mono HB3.out.size)⟩
  · have HZ := hide (show k.write = .empty from by unfold Tree.write; rw [if_neg (by rw [tb_false hok]; simp)])
    rw [tb_false hok]
    clear hok
    go_wp2
    go_ret
    exact ⟨ret_str HZ.out.symm, HB3.out⟩
end Go.Proofs.YtnaecdoeldoipaaGreatDoor
set_option linter.unusedVariables false
set_option linter.unusedSimpArgs false
namespace Go.Proofs.YtnaecdoeldoipaaGreatDoor
open Go.ChangeShapes Go.WideShapes Go.ChangeAt Go.RowKit

mutual
def Tree.mk_ : Tree → Nat → Nat → Prop
  | .mk sort num text names kids, a, b => ∃ e1 e2 : Nat, sort = ((a : Nat) : Int) ∧ num = (((a + 1) : Nat) : Int) ∧ text = mtext (a + 2) ∧ MkStringS names (a + 3) e1 ∧ Tree.mkS kids e1 e2 ∧ b = e2
def Tree.mkS : List Tree → Nat → Nat → Prop
  | [], a, b => a = b
  | x :: r, a, b => ∃ c, x.mk_ a c ∧ Tree.mkS r c b
end
mutual
def Tree.cnt : Tree → Nat
  | .mk sort num text names kids => 3 + names.length + Tree.cntS kids
def Tree.cntS : List Tree → Nat
  | [] => 0
  | x :: r => x.cnt + Tree.cntS r
end
theorem Tree.mk_iff (x : Tree) (a b : Nat) : x.mk_ a b ↔ ∃ e1 e2 : Nat, x.sort = ((a : Nat) : Int) ∧ x.num = (((a + 1) : Nat) : Int) ∧ x.text = mtext (a + 2) ∧ MkStringS x.names (a + 3) e1 ∧ Tree.mkS x.kids e1 e2 ∧ b = e2 := by cases x; rfl
theorem Tree.cnt_eq (x : Tree) : x.cnt = 3 + x.names.length + Tree.cntS x.kids := by cases x; rfl
theorem Tree.mkS_snoc : ∀ (l : List Tree) (x : Tree) (a c b : Nat), Tree.mkS l a c → x.mk_ c b → Tree.mkS (l ++ [x]) a b
  | [], x, a, c, b, h, hx => by
    simp only [Tree.mkS] at h
    subst h
    exact ⟨b, hx, rfl⟩
  | y :: r, x, a, c, b, h, hx => by
    obtain ⟨d, h1, h2⟩ := h
    exact ⟨d, h1, Tree.mkS_snoc r x d c b h2 hx⟩
theorem Tree.mkS_drop : ∀ (l : List Tree) (b : Nat) (k : Nat) (h : k < l.length) (c : Nat), Tree.mkS (l.drop k) c b → ∃ d, l[k].mk_ c d ∧ Tree.mkS (l.drop (k + 1)) d b
  | x :: r, b, 0, _, c, h => by
    obtain ⟨d, h1, h2⟩ := h
    exact ⟨d, h1, h2⟩
  | x :: r, b, k + 1, hk, c, h => Tree.mkS_drop r b k (by simpa using hk) c h
theorem Tree.cntS_append (a b : List Tree) : Tree.cntS (a ++ b) = Tree.cntS a + Tree.cntS b := by
  induction a with
  | nil => simp [Tree.cntS]
  | cons x a ih => simp [Tree.cntS, ih]; omega
theorem Tree.cntS_snoc (l : List Tree) (k : Nat) (h : k < l.length) : Tree.cntS (l.take (k + 1)) = Tree.cntS (l.take k) + l[k].cnt := by
  rw [List.take_succ_eq_append_getElem h, Tree.cntS_append]
  simp [Tree.cntS]
theorem Tree.cntS_le (l : List Tree) (k : Nat) : Tree.cntS (l.take k) ≤ Tree.cntS l := by
  conv => rhs; rw [← List.take_append_drop k l, Tree.cntS_append]
  omega
theorem Tree.mkS_le_of (l : List Tree) (ih : ∀ x ∈ l, ∀ a b, x.mk_ a b → a ≤ b) : ∀ a b, Tree.mkS l a b → a ≤ b := by
  induction l with
  | nil => intro a b h; simp only [Tree.mkS] at h; omega
  | cons x l ihl => intro a b h; obtain ⟨c, h1, h2⟩ := h; exact Nat.le_trans (ih x (by simp) _ _ h1) (ihl (fun y hy => ih y (by simp [hy])) _ _ h2)
theorem Tree.mk_le (x : Tree) : ∀ a b, x.mk_ a b → a ≤ b := by
  refine Tree.ind (P := fun x => ∀ a b, x.mk_ a b → a ≤ b) (fun x ihx => ?_) x
  intro a b h
  have ih := Tree.mkS_le_of x.kids ihx
  obtain ⟨e1, e2, h0, h1, h2, h3, h4, hb⟩ := (x.mk_iff a b).1 h
  have q3 := h3.1
  have q4 := ih _ _ h4
  omega
theorem Tree.mkS_le (l : List Tree) : ∀ a b, Tree.mkS l a b → a ≤ b := Tree.mkS_le_of l fun x _ => x.mk_le

def MarkTreeS (l : List Tree) : Prop := ∀ (A : Option Addr) (n c : Nat) (fp : List Nat) (lo : Nat) (z : Int) (k0 : Nat) (w : World), z = k0 → Ow w (.s 5 l.length (l.flatMap Tree.cells)) (.slice A n c) fp → New w fp lo → k0 + Tree.cntS l ≤ 1099511627776 →
  Calls Tryz.prog 123 #[.slice A n c, .int .i64 z] w fun e w' => ∃ (l' : List Tree), e = .returned (.int .i64 ((k0 + Tree.cntS l : Nat) : Int)) ∧ l'.length = l.length ∧ Ow w' (.s 5 l'.length (l'.flatMap Tree.cells)) (.slice A n c) fp ∧ Tree.mkS l' k0 (k0 + Tree.cntS l) ∧ Touch fp w w'
set_option maxRecDepth 100000 in
set_option maxHeartbeats 1000000 in
theorem markTreeS_of (l : List Tree) (ih : ∀ x ∈ l, MarkTreeS x.kids) : MarkTreeS l := by
  intro A n c fp lo z k0 w hz h hn hb
  subst hz
  obtain ⟨rfl, hc, hm⟩ := h.nlen
  unfold maxLen at hm
  go_enter Tryz.func123, Tryz.ntmps123
  go_wp2
  go_loopw [1, 5] (fun a i wr => (∃ (j : Nat) (lj : List Tree), j ≤ l.length ∧ lj.length = l.length ∧ a = .int .i64 ((k0 + Tree.cntS (l.take j) : Nat) : Int) ∧ i = .int .i64 (j : Nat) ∧ Ow wr (.s 5 lj.length (lj.flatMap Tree.cells)) (.slice A l.length c) fp ∧ Tree.mkS (lj.take j) k0 (k0 + Tree.cntS (l.take j)) ∧ lj.drop j = l.drop j) ∧ Touch fp w wr) (fun _ i _ => l.length - (intOf i).toNat)
  case atStart => exact ⟨⟨0, l, Nat.zero_le _, rfl, by simp [Tree.cntS], rfl, h, by simp [Tree.cntS, Tree.mkS], rfl⟩, Touch.refl _ _⟩
  case round =>
    obtain ⟨⟨j, lj, hj, hlj, rfl, rfl, hoj, hmj, hdj⟩, ht⟩ := hrel
    have HN := hide (ht.new hn)
    have HT := hide ht
    have HM := hide hmj
    have HL := hide hlj
    have HD := hide hdj
    clear hmj ht hdj
    by_cases hlt : j < l.length
    · have hltj : j < lj.length := by omega
      have hxe : lj[j] = l[j] := by
        have h1 : (lj.drop j)[0]? = (l.drop j)[0]? := by rw [HD.out]
        simpa [List.getElem?_drop, List.getElem?_eq_getElem hlt, List.getElem?_eq_getElem hltj] using h1
      have HS := hide (Tree.cntS_snoc l j hlt)
      have hle := Tree.cntS_le l (j + 1)
      obtain ⟨g, off, us, fi, rfl, hg, hfi, hgi, hnd, hul, hcs, hov, hput⟩ := hoj.upd Tree.cells_len HN.out.nd hltj
      rw [hxe] at hov
      have HC := hide (ih _ (List.getElem_mem hlt))
      have HCN := hide (l[j].cnt_eq)
      clear hxe
      generalize hxx : l[j] = x at *
      have HXX := hide hxx
      clear hxx
      have hbb : k0 + Tree.cntS (l.take j) + (3 + x.names.length + Tree.cntS x.kids) ≤ 1099511627776 := by have h1 := HS.out; have h2 := HCN.out; have h3 : Tree.cntS l ≥ Tree.cntS (l.take (j + 1)) := hle; omega
      obtain ⟨A1, c1, A2, c2, f1, f2, rfl, w0, w1, w2, o1, o2, rfl⟩ := hov.oTree
      have p0 := hcs 0 _ rfl
      have p1 := hcs 1 _ rfl
      have p2 := hcs 2 _ rfl
      have p3 := hcs 3 _ rfl
      have p4 := hcs 4 _ rfl
      simp only [Nat.add_zero] at p0
      have hu := HN.out.uf g hg
      have hgl := HN.out.lt g hg
      have hfl : Lt (f1 ++ (f2)) wr.heap.size := HN.out.lt.sub hfi
      have q0 := unf_frozen hu (off + j * 5)
      have q1 := unf_frozen hu (off + j * 5 + 1)
      have q2 := unf_frozen hu (off + j * 5 + 2)
      have q3 := unf_frozen hu (off + j * 5 + 3)
      have q4 := unf_frozen hu (off + j * 5 + 4)
      have dj1 := (List.nodup_append.1 hnd).2.2
      have n1 := (List.nodup_append.1 hnd).1
      have gn1 : g ∉ f1 := fun hm => hgi (List.mem_append_left _ hm)
      have fl1 := hfl.left
      have n2 := (List.nodup_append.1 hnd).2.1
      have gn2 : g ∉ f2 := (fun hm => hgi (List.mem_append_right _ hm))
      have fl2 := hfl.right
      have sb1 : f1 ⊆ fp := fun b hb => hfi (List.mem_append_left _ hb)
      have nw1 : New wr f1 lo := ⟨fun b hb => HN.out.fr b (sb1 hb), n1, fun b hb => HN.out.uf b (sb1 hb)⟩
      have sb2 : f2 ⊆ fp := fun b hb => hfi (List.mem_append_right _ hb)
      have nw2 : New wr f2 lo := ⟨fun b hb => HN.out.fr b (sb2 hb), n2, fun b hb => HN.out.uf b (sb2 hb)⟩
      have HP := hide hput
      clear hcs hput hov hlj hoj
      have O1 := hide o1
      clear o1
      have O2 := hide o2
      clear o2
      have seg0 : Seg g (off + j * 5) (off + j * 5 + 5) [] wr wr := Seg.refl _ _ _ _ _
      go_wp2_with fail
      refine (markText_any _ ((k0 + Tree.cntS (l.take j)) + 2) (by omega) (by omega) _).mono ?_
      rintro e w1_ ⟨rfl, hb1⟩
      have t1 : Touch [] _ w1_ := Touch.below hb1
      have sg1 := ((seg0.setCell (o := off + j * 5) (by omega) (by omega) (.int .i64 (((k0 + Tree.cntS (l.take j)) : Nat) : Int))).setCell (o := off + j * 5 + 1) (by omega) (by omega) (.int .i64 ((((k0 + Tree.cntS (l.take j)) + 1) : Nat) : Int)))
      have hgl1 := Nat.lt_of_lt_of_le hgl sg1.size
      have p1_0 : w1_.cell? ⟨g, off + j * 5, none⟩ = some (.int .i64 (((k0 + Tree.cntS (l.take j)) : Nat) : Int)) := (World.cell?_of_block (a := ⟨g, off + j * 5, none⟩) (t1.block g hgl1 (by simp))).trans (by go_simp)
      have p1_1 : w1_.cell? ⟨g, off + j * 5 + 1, none⟩ = some (.int .i64 ((((k0 + Tree.cntS (l.take j)) + 1) : Nat) : Int)) := (World.cell?_of_block (a := ⟨g, off + j * 5 + 1, none⟩) (t1.block g hgl1 (by simp))).trans (by go_simp)
      have p1_2 : w1_.cell? ⟨g, off + j * 5 + 2, none⟩ = some (.string x.text) := (World.cell?_of_block (a := ⟨g, off + j * 5 + 2, none⟩) (t1.block g hgl1 (by simp))).trans (by go_simp)
      have p1_3 : w1_.cell? ⟨g, off + j * 5 + 3, none⟩ = some (.slice A1 x.names.length c1) := (World.cell?_of_block (a := ⟨g, off + j * 5 + 3, none⟩) (t1.block g hgl1 (by simp))).trans (by go_simp)
      have p1_4 : w1_.cell? ⟨g, off + j * 5 + 4, none⟩ = some (.slice A2 x.kids.length c2) := (World.cell?_of_block (a := ⟨g, off + j * 5 + 4, none⟩) (t1.block g hgl1 (by simp))).trans (by go_simp)
      have hu1 := t1.unf g (sg1.unf g hu)
      have q1_0 := unf_frozen hu1 (off + j * 5)
      have q1_1 := unf_frozen hu1 (off + j * 5 + 1)
      have q1_2 := unf_frozen hu1 (off + j * 5 + 2)
      have q1_3 := unf_frozen hu1 (off + j * 5 + 3)
      have q1_4 := unf_frozen hu1 (off + j * 5 + 4)
      have seg1 : Seg g (off + j * 5) (off + j * 5 + 5) ([]) wr w1_ := (Seg.mono sg1 (by intro b hb; first | (cases hb; done) | exact hb | (simp only [List.nil_append, List.append_assoc, List.mem_append, List.mem_cons, List.not_mem_nil, or_false, false_or] at hb ⊢; simp [hb]))).touch t1 (by intro b hb; first | (cases hb; done) | exact hb | (simp only [List.nil_append, List.append_assoc, List.mem_append, List.mem_cons, List.not_mem_nil, or_false, false_or] at hb ⊢; simp [hb])) (by simp) hgl1
      go_wp2_with fail
      have sg2 := (seg1.setCell (o := off + j * 5 + 2) (by omega) (by omega) (.string (mtext ((k0 + Tree.cntS (l.take j)) + 2))))
      have OS1 := seg_read O1.out sg2 fl1 gn1 (fun b hb hm => by simp at hm)
      have NS1 := seg_new nw1 sg2
      refine (markStringS_any _ _ _ _ _ lo _ ((k0 + Tree.cntS (l.take j)) + 3) _ (by omega) (OS1) (NS1) (by have := HCN.out; have := HS.out; omega)).mono ?_
      rintro e w2_ ⟨y1, rfl, yl1, yo1, ym1, t2⟩
      have YO1 := hide yo1
      have YL1 := hide yl1
      clear yo1 OS1
      have hgl2 := Nat.lt_of_lt_of_le hgl sg2.size
      have p2_0 : w2_.cell? ⟨g, off + j * 5, none⟩ = some (.int .i64 (((k0 + Tree.cntS (l.take j)) : Nat) : Int)) := (World.cell?_of_block (a := ⟨g, off + j * 5, none⟩) (t2.block g hgl2 gn1)).trans (by go_simp)
      have p2_1 : w2_.cell? ⟨g, off + j * 5 + 1, none⟩ = some (.int .i64 ((((k0 + Tree.cntS (l.take j)) + 1) : Nat) : Int)) := (World.cell?_of_block (a := ⟨g, off + j * 5 + 1, none⟩) (t2.block g hgl2 gn1)).trans (by go_simp)
      have p2_2 : w2_.cell? ⟨g, off + j * 5 + 2, none⟩ = some (.string (mtext ((k0 + Tree.cntS (l.take j)) + 2))) := (World.cell?_of_block (a := ⟨g, off + j * 5 + 2, none⟩) (t2.block g hgl2 gn1)).trans (by go_simp)
      have p2_3 : w2_.cell? ⟨g, off + j * 5 + 3, none⟩ = some (.slice A1 x.names.length c1) := (World.cell?_of_block (a := ⟨g, off + j * 5 + 3, none⟩) (t2.block g hgl2 gn1)).trans (by go_simp)
      have p2_4 : w2_.cell? ⟨g, off + j * 5 + 4, none⟩ = some (.slice A2 x.kids.length c2) := (World.cell?_of_block (a := ⟨g, off + j * 5 + 4, none⟩) (t2.block g hgl2 gn1)).trans (by go_simp)
      have hu2 := t2.unf g (sg2.unf g hu)
      have q2_0 := unf_frozen hu2 (off + j * 5)
      have q2_1 := unf_frozen hu2 (off + j * 5 + 1)
      have q2_2 := unf_frozen hu2 (off + j * 5 + 2)
      have q2_3 := unf_frozen hu2 (off + j * 5 + 3)
      have q2_4 := unf_frozen hu2 (off + j * 5 + 4)
      have seg2 : Seg g (off + j * 5) (off + j * 5 + 5) (f1) wr w2_ := (Seg.mono sg2 (by intro b hb; first | (cases hb; done) | exact hb | (simp only [List.nil_append, List.append_assoc, List.mem_append, List.mem_cons, List.not_mem_nil, or_false, false_or] at hb ⊢; simp [hb]))).touch t2 (by intro b hb; first | (cases hb; done) | exact hb | (simp only [List.nil_append, List.append_assoc, List.mem_append, List.mem_cons, List.not_mem_nil, or_false, false_or] at hb ⊢; simp [hb])) gn1 hgl2
      go_wp2_with fail
      have sg3 := seg2
      have OS2 := seg_read O2.out sg3 fl2 gn2 (fun b hb hm => by (try simp only [List.mem_append] at hm); rcases hm with hm <;> first | exact dj1 b hm b (by simp [hb]) rfl)
      have NS2 := seg_new nw2 sg3
      refine (HC.out _ _ _ _ lo _ (((k0 + Tree.cntS (l.take j)) + 3) + x.names.length) _ (by omega) (OS2) (NS2) (by have := HCN.out; have := HS.out; omega)).mono ?_
      rintro e w3_ ⟨y2, rfl, yl2, yo2, ym2, t3⟩
      have YO2 := hide yo2
      have YL2 := hide yl2
      clear yo2 OS2
      have hgl3 := Nat.lt_of_lt_of_le hgl sg3.size
      have p3_0 : w3_.cell? ⟨g, off + j * 5, none⟩ = some (.int .i64 (((k0 + Tree.cntS (l.take j)) : Nat) : Int)) := (World.cell?_of_block (a := ⟨g, off + j * 5, none⟩) (t3.block g hgl3 gn2)).trans (by go_simp)
      have p3_1 : w3_.cell? ⟨g, off + j * 5 + 1, none⟩ = some (.int .i64 ((((k0 + Tree.cntS (l.take j)) + 1) : Nat) : Int)) := (World.cell?_of_block (a := ⟨g, off + j * 5 + 1, none⟩) (t3.block g hgl3 gn2)).trans (by go_simp)
      have p3_2 : w3_.cell? ⟨g, off + j * 5 + 2, none⟩ = some (.string (mtext ((k0 + Tree.cntS (l.take j)) + 2))) := (World.cell?_of_block (a := ⟨g, off + j * 5 + 2, none⟩) (t3.block g hgl3 gn2)).trans (by go_simp)
      have p3_3 : w3_.cell? ⟨g, off + j * 5 + 3, none⟩ = some (.slice A1 x.names.length c1) := (World.cell?_of_block (a := ⟨g, off + j * 5 + 3, none⟩) (t3.block g hgl3 gn2)).trans (by go_simp)
      have p3_4 : w3_.cell? ⟨g, off + j * 5 + 4, none⟩ = some (.slice A2 x.kids.length c2) := (World.cell?_of_block (a := ⟨g, off + j * 5 + 4, none⟩) (t3.block g hgl3 gn2)).trans (by go_simp)
      have hu3 := t3.unf g (sg3.unf g hu)
      have q3_0 := unf_frozen hu3 (off + j * 5)
      have q3_1 := unf_frozen hu3 (off + j * 5 + 1)
      have q3_2 := unf_frozen hu3 (off + j * 5 + 2)
      have q3_3 := unf_frozen hu3 (off + j * 5 + 3)
      have q3_4 := unf_frozen hu3 (off + j * 5 + 4)
      have YO1 := hide (Ow.touch YO1.out t3 (fun b hb => Nat.lt_of_lt_of_le (fl1 b hb) sg3.size) (fun b hb hm => dj1 b hb b (by simp [hm]) rfl))
      have seg3 : Seg g (off + j * 5) (off + j * 5 + 5) (f1 ++ (f2)) wr w3_ := (Seg.mono sg3 (by intro b hb; first | (cases hb; done) | exact hb | (simp only [List.nil_append, List.append_assoc, List.mem_append, List.mem_cons, List.not_mem_nil, or_false, false_or] at hb ⊢; simp [hb]))).touch t3 (by intro b hb; first | (cases hb; done) | exact hb | (simp only [List.nil_append, List.append_assoc, List.mem_append, List.mem_cons, List.not_mem_nil, or_false, false_or] at hb ⊢; simp [hb])) gn2 hgl3
      go_wp2
      go_roundw
      case rel =>
        have hseg := Seg.mono (fj := f1 ++ (f2)) seg3 (by intro b hb; first | (cases hb; done) | exact hb | (simp only [List.nil_append, List.append_assoc, List.mem_append, List.mem_cons, List.not_mem_nil, or_false, false_or] at hb ⊢; simp [hb]))
        have hnew := HP.out _ (Tree.mk ((((k0 + Tree.cntS (l.take j)) : Nat) : Int)) (((((k0 + Tree.cntS (l.take j)) + 1) : Nat) : Int)) (mtext ((k0 + Tree.cntS (l.take j)) + 2)) y1 y2) [.int .i64 (((k0 + Tree.cntS (l.take j)) : Nat) : Int), .int .i64 ((((k0 + Tree.cntS (l.take j)) + 1) : Nat) : Int), .string (mtext ((k0 + Tree.cntS (l.take j)) + 2)), .slice A1 x.names.length c1, .slice A2 x.kids.length c2] (by
          have h := OwC.mTree (w := w3_) (x := (Tree.mk ((((k0 + Tree.cntS (l.take j)) : Nat) : Int)) (((((k0 + Tree.cntS (l.take j)) + 1) : Nat) : Int)) (mtext ((k0 + Tree.cntS (l.take j)) + 2)) y1 y2)) (by show (Lit.int .i64 (((k0 + Tree.cntS (l.take j)) : Nat) : Int)).wf = true; exact WalkArith.wf_i64 (by have := HCN.out; have := HS.out; omega)) (by show (Lit.int .i64 ((((k0 + Tree.cntS (l.take j)) + 1) : Nat) : Int)).wf = true; exact WalkArith.wf_i64 (by have := HCN.out; have := HS.out; omega)) (mtext_size ((k0 + Tree.cntS (l.take j)) + 2) (by have := HCN.out; have := HS.out; omega)) (by have h := YO1.out; first | exact h | (rw [YL1.out]; exact h) | simpa [YL1.out] using h) (by have h := YO2.out; first | exact h | (rw [YL2.out]; exact h) | simpa [YL2.out] using h)
          first | exact h | simpa using h) (fun i u hi => by
          match i, hi with
          | 0, hi => simp at hi; subst hi; go_simp
          | 1, hi => simp at hi; subst hi; go_simp
          | 2, hi => simp at hi; subst hi; go_simp
          | 3, hi => simp at hi; subst hi; go_simp
          | 4, hi => simp at hi; subst hi; go_simp) hseg HN.out.lt
        refine ⟨⟨j + 1, lj.set j (Tree.mk ((((k0 + Tree.cntS (l.take j)) : Nat) : Int)) (((((k0 + Tree.cntS (l.take j)) + 1) : Nat) : Int)) (mtext ((k0 + Tree.cntS (l.take j)) + 2)) y1 y2), by omega, by simpa using HL.out, by rw [HS.out, HCN.out]; go_num, by go_num, by rw [List.length_set]; exact hnew, ?_, ?_⟩, HT.out.trans (hseg.to_touch hg hfi)⟩
        · rw [take_set_succ lj j _ (by have := HL.out; omega), HS.out]
          refine Tree.mkS_snoc _ _ _ _ _ HM.out ((Tree.mk_iff _ _ _).2 ?_)
          exact ⟨(((k0 + Tree.cntS (l.take j)) + 3) + x.names.length), ((((k0 + Tree.cntS (l.take j)) + 3) + x.names.length) + Tree.cntS x.kids), rfl, rfl, rfl, ym1, ym2, by rw [HCN.out]; simp only [Nat.add_assoc]; try omega⟩
        · rw [drop_set_succ]
          have h := congrArg (List.drop 1) HD.out
          simpa [List.drop_drop, Nat.add_comm] using h
      case measure => simp [intOf]; omega
    · obtain rfl : j = l.length := by omega
      have HO := hide hoj
      clear hoj hlj
      go_wp2
      go_ret
      have e1 : lj.take l.length = lj := List.take_of_length_le (by have := HL.out; omega)
      have e2 : l.take l.length = l := List.take_length
      have hmm := HM.out
      try rw [e1] at hmm
      try rw [e2] at hmm
      exact ⟨lj, (by first | exact rfl | (rw [e2]; exact rfl)), HL.out, HO.out, hmm, HT.out⟩
theorem markTree_kids (x : Tree) : MarkTreeS x.kids := Tree.ind (fun x ih => markTreeS_of x.kids ih) x
theorem markTreeS_any (l : List Tree) : MarkTreeS l := markTreeS_of l fun x _ => markTree_kids x
def HeldTreeS (l : List Tree) : Prop := ∀ (A : Option Addr) (n c : Nat) (fp : List Nat) (z : Int) (a b : Nat) (w : World), z = a → Ow w (.s 5 l.length (l.flatMap Tree.cells)) (.slice A n c) fp → Lt fp w.heap.size → Tree.mkS l a b → b ≤ 1099511627776 →
  Calls Tryz.prog 125 #[.slice A n c, .int .i64 z] w fun e w' => e = .returned (.int .i64 (b : Nat)) ∧ Below w.heap.size w w'
set_option maxRecDepth 100000 in
set_option maxHeartbeats 1000000 in
theorem heldTreeS_of (l : List Tree) (ih : ∀ x ∈ l, HeldTreeS x.kids) : HeldTreeS l := by
  intro A n c fp z a b w hz h hf hmk hbb
  subst hz
  obtain ⟨rfl, hc, hm⟩ := h.nlen
  unfold maxLen at hm
  have HMK := hide hmk
  have hab := Tree.mkS_le _ _ _ hmk
  clear hmk
  go_enter Tryz.func125, Tryz.ntmps125
  go_wp2
  go_loopw [1, 5] (fun u i wr => (∃ (j d : Nat), j ≤ l.length ∧ u = .int .i64 (d : Nat) ∧ i = .int .i64 (j : Nat) ∧ Tree.mkS (l.drop j) d b) ∧ Below w.heap.size w wr) (fun _ i _ => l.length - (intOf i).toNat)
  case atStart => exact ⟨⟨0, a, Nat.zero_le _, rfl, rfl, HMK.out⟩, Below.refl _ _⟩
  case round =>
    obtain ⟨⟨j, d, hj, rfl, rfl, hmj⟩, hbel⟩ := hrel
    have HB := hide hbel
    have HJ := hide hmj
    have hdb := Tree.mkS_le _ _ _ hmj
    clear hmj
    by_cases hlt : j < l.length
    · obtain ⟨g, off, us, fi, rfl, hg, hfi, hul, hcs, ho⟩ := (h.below HB.out hf).elem Tree.cells_len hlt
      obtain ⟨d2, hmx, hmr⟩ := Tree.mkS_drop l b j hlt d HJ.out
      have HR := hide hmr
      have hd2 := Tree.mkS_le _ _ _ hmr
      clear hmr
      have HC := hide (ih _ (List.getElem_mem hlt))
      have hgl : g < wr.heap.size := (hf.up HB.out) g hg
      have hfl := (hf.up HB.out).sub hfi
      generalize l[j] = x at *
      obtain ⟨A1, c1, A2, c2, f1, f2, rfl, w0, w1, w2, o1, o2, rfl⟩ := ho.oTree
      obtain ⟨e1, e2, m0, m1, m2, m3, m4, hd2e⟩ := (x.mk_iff _ _).1 hmx
      have HD := hide hd2e
      clear hd2e hmx
      have p0 := hcs 0 _ rfl
      have p1 := hcs 1 _ rfl
      have p2 := hcs 2 _ rfl
      have p3 := hcs 3 _ rfl
      have p4 := hcs 4 _ rfl
      simp only [Nat.add_zero] at p0
      rw [m0] at p0
      rw [m1] at p1
      rw [m2] at p2
      have b3 := m3.1
      have b4 := Tree.mkS_le _ _ _ m4
      have hbd : d2 ≤ 1099511627776 := by omega
      have M3 := hide m3
      have M4 := hide m4
      have x_e1 : e1 ≤ d2 := by have := HD.out; omega
      have x_e2 : e2 ≤ d2 := by have := HD.out; omega
      have z0 : d + 1 ≤ d2 := by have := HD.out; omega
      have z1 : d + 2 ≤ d2 := by have := HD.out; omega
      have z2 : d + 3 ≤ d2 := by have := HD.out; omega
      have hend : e2 ≤ d2 := by have := HD.out; omega
      have HBS := hide (And.intro trivial (And.intro trivial trivial) : True ∧ True ∧ True)
      clear b3
      clear m0 m1 m2 m3 m4 hcs ho
      have O1 := hide o1
      clear o1
      have O2 := hide o2
      clear o2
      have fl1 := hfl.left
      have fl2 := hfl.right
      have B0 := hide (Below.refl wr.heap.size wr)
      go_wp2
      go_region_held3 (fun u => u.cell? ⟨g, off + j * 5 + 2, none⟩ = some (.string (mtext (d + 2)))) (first | go_keep | exact (hb1.cell (p := ⟨g, off + j * 5 + 2, none⟩) (by first | exact hgl | exact hgl0)).trans (by go_simp))
        (first | (go_at_call 146; refine (markText_any _ (d + 2) (by omega) (by omega) _).mono ?_; rintro e w1_ ⟨rfl, hb1⟩))
      have hb1 : Below wr.heap.size wr w1_ := ⟨hb1.os, hb1.tape, hb1.output, hb1.size, hb1.block⟩
      have B1 := hide (B0.out.trans (hb1.mono B0.out.size))
      have hgl1 := Nat.lt_of_lt_of_le hgl B1.out.size
      have p1_3 := (B1.out.cell (p := ⟨g, off + j * 5 + 3, none⟩) hgl).trans p3
      have p1_4 := (B1.out.cell (p := ⟨g, off + j * 5 + 4, none⟩) hgl).trans p4
      go_wp2_with fail
      refine (heldStringS_any _ _ _ _ _ _ (d + 3) e1 _ (by omega) (O1.out.below B1.out fl1) (fl1.up B1.out) M3.out (by omega)).mono ?_
      rintro e w2_ ⟨rfl, hb2⟩
      have B2 := hide (B1.out.trans (hb2.mono B1.out.size))
      have hgl2 := Nat.lt_of_lt_of_le hgl B2.out.size
      have p2_4 := (B2.out.cell (p := ⟨g, off + j * 5 + 4, none⟩) hgl).trans p4
      go_wp2_with fail
      refine (HC.out _ _ _ _ _ e1 e2 _ (by omega) (O2.out.below B2.out fl2) (fl2.up B2.out) M4.out (by omega)).mono ?_
      rintro e w3_ ⟨rfl, hb3⟩
      have B3 := hide (B2.out.trans (hb3.mono B2.out.size))
      have hgl3 := Nat.lt_of_lt_of_le hgl B3.out.size
      go_wp2
      go_roundw
      case rel => exact ⟨⟨j + 1, d2, by omega, by (rw [HD.out]; try go_num), by go_num, HR.out⟩, HB.out.trans (B3.out.mono HB.out.size)⟩
      case measure => simp [intOf]; omega
    · obtain rfl : j = l.length := by omega
      have e := HJ.out
      rw [List.drop_length] at e
      simp only [Tree.mkS] at e
      subst e
      clear HJ
      go_wp2
      go_ret
      exact ⟨rfl, HB.out⟩
theorem heldTree_kids (x : Tree) : HeldTreeS x.kids := Tree.ind (fun x ih => heldTreeS_of x.kids ih) x
theorem heldTreeS_any (l : List Tree) : HeldTreeS l := heldTreeS_of l fun x _ => heldTree_kids x
end Go.Proofs.YtnaecdoeldoipaaGreatDoor
set_option linter.unusedVariables false
set_option linter.unusedSimpArgs false
namespace Go.Proofs.YtnaecdoeldoipaaGreatDoor
open Go.ChangeShapes Go.WideShapes Go.ChangeAt Go.RowKit
def Tree.mkTop (x : Tree) (a b : Nat) : Prop := ∃ e1, MkStringS x.names a e1 ∧ Tree.mkS x.kids e1 b
def Tree.cntTop (x : Tree) : Nat := x.names.length + Tree.cntS x.kids
theorem Tree.cntTop_eq (x : Tree) : x.cntTop = x.names.length + Tree.cntS x.kids := rfl
set_option maxRecDepth 100000 in
set_option maxHeartbeats 1000000 in
theorem markTree_any (x : Tree) (us : List Value) (fp : List Nat) (lo : Nat) (z : Int) (k0 : Nat) (w : World) (hz : z = k0) (ho : OwC w x.cells us fp) (hn : New w fp lo) (hb : k0 + x.cntTop ≤ 1099511627776) :
    Calls Tryz.prog 71 #[.agg us.toArray, .int .i64 z] w fun e w' => ∃ (x' : Tree), e = .returned (.int .i64 ((k0 + x.cntTop : Nat) : Int)) ∧ OwC w' x'.cells us fp ∧ x'.mkTop k0 (k0 + x.cntTop) ∧ Touch fp w w' := by
  subst hz
  have hc := x.cntTop_eq
  obtain ⟨A1, c1, A2, c2, f1, f2, rfl, w0, w1, w2, o1, o2, rfl⟩ := ho.oTree
  have hw0 : Below w.heap.size w (w.alloc (.cells #[.int .i64 x.sort, .int .i64 x.num, .string x.text, .slice A1 x.names.length c1, .slice A2 x.kids.length c2] 26)) := (Below.refl _ _).alloc (Nat.le_refl _) _
  have R0 : Row (w.alloc (.cells #[.int .i64 x.sort, .int .i64 x.num, .string x.text, .slice A1 x.names.length c1, .slice A2 x.kids.length c2] 26)) w.heap.size 26 [.int .i64 x.sort, .int .i64 x.num, .string x.text, .slice A1 x.names.length c1, .slice A2 x.kids.length c2] := Row.new w _ _
  have n1 := hn.left
  have r1 := hn.right
  have dj1 := (List.nodup_append.1 hn.nd).2.2
  have n2 := r1
  have O1 := hide (o1.below hw0 n1.lt)
  have N1 := hide (n1.alloc (.cells #[.int .i64 x.sort, .int .i64 x.num, .string x.text, .slice A1 x.names.length c1, .slice A2 x.kids.length c2] 26))
  have nb1 : w.heap.size ∉ f1 := fun h => Nat.lt_irrefl _ (n1.lt _ h)
  have O2 := hide (o2.below hw0 n2.lt)
  have N2 := hide (n2.alloc (.cells #[.int .i64 x.sort, .int .i64 x.num, .string x.text, .slice A1 x.names.length c1, .slice A2 x.kids.length c2] 26))
  have nb2 : w.heap.size ∉ f2 := fun h => Nat.lt_irrefl _ (n2.lt _ h)
  have dd1_2 : ∀ g ∈ f2, g ∉ f1 := fun g hg h => dj1 _ h _ hg rfl
  clear ho o1 o2 hn
  have T0 := hide (Touch.below (fp := f1 ++ (f2)) hw0)
  go_enter Tryz.func71, Tryz.ntmps71
  go_wp2_with fail
  refine (markStringS_any x.names _ _ _ f1 lo _ (k0) _ (by omega) O1.out N1.out (by omega)).mono ?_
  rintro e w1_ ⟨y1, rfl, yl1, yo1, ym1, t1⟩
  have T1 := hide (T0.out.trans (t1.mono (by intro g hg; simp [hg])))
  have YO1 := hide yo1
  have YM1 := hide ym1
  have YL1 := hide yl1
  clear yo1 ym1 yl1
  have R1 : Row w1_ w.heap.size 26 [.int .i64 x.sort, .int .i64 x.num, .string x.text, .slice A1 x.names.length c1, .slice A2 x.kids.length c2] := (t1.block _ R0.lt nb1).trans R0
  have O2 := hide (O2.out.touch t1 N2.out.lt dd1_2)
  have N2 := hide (t1.new N2.out)
  have M1 := hide (t1.new N1.out)
  clear t1
  have lt1 := R1.lt
  have cc1 := R1.cell 4
  go_wp2_with fail
  refine (markTreeS_any x.kids _ _ _ f2 lo _ ((k0) + x.names.length) _ (by omega) O2.out N2.out (by omega)).mono ?_
  rintro e w2_ ⟨y2, rfl, yl2, yo2, ym2, t2⟩
  have T2 := hide (T1.out.trans (t2.mono (by intro g hg; simp [hg])))
  have YO2 := hide yo2
  have YM2 := hide ym2
  have YL2 := hide yl2
  clear yo2 ym2 yl2
  have R2 : Row w2_ w.heap.size 26 [.int .i64 x.sort, .int .i64 x.num, .string x.text, .slice A1 x.names.length c1, .slice A2 x.kids.length c2] := (t2.block _ R1.lt nb2).trans R1
  have YO1 := hide (YO1.out.touch t2 M1.out.lt (fun g hg h => dd1_2 g h hg))
  have M1 := hide (t2.new M1.out)
  have M2 := hide (t2.new N2.out)
  clear t2
  have lt2 := R2.lt
  go_wp2
  go_ret
  refine ⟨(Tree.mk x.sort x.num x.text y1 y2), ret_int (by omega), OwC.mTree w0 w1 w2 YO1.out YO2.out, ?_, ?_⟩
  · refine ⟨_, YM1.out, ?_⟩
    have h := YM2.out
    rw [hc]
    (try simp only [Nat.add_assoc] at h)
    (try simp only [Nat.add_assoc])
    exact h
  · exact T2.out
set_option maxRecDepth 100000 in
set_option maxHeartbeats 1000000 in
theorem heldTree_any (x : Tree) (us : List Value) (fp : List Nat) (z : Int) (a b : Nat) (w : World) (hz : z = a) (ho : OwC w x.cells us fp) (hf : Lt fp w.heap.size) (hmk : x.mkTop a b) (hb : b ≤ 1099511627776) :
    Calls Tryz.prog 72 #[.agg us.toArray, .int .i64 z] w fun e w' => e = .returned (.int .i64 (b : Nat)) ∧ Below w.heap.size w w' := by
  subst hz
  obtain ⟨A1, c1, A2, c2, f1, f2, rfl, w0, w1, w2, o1, o2, rfl⟩ := ho.oTree
  obtain ⟨e1, m1, m2⟩ := hmk
  have hw0 : Below w.heap.size w (w.alloc (.cells #[.int .i64 x.sort, .int .i64 x.num, .string x.text, .slice A1 x.names.length c1, .slice A2 x.kids.length c2] 26)) := (Below.refl _ _).alloc (Nat.le_refl _) _
  have R0 : Row (w.alloc (.cells #[.int .i64 x.sort, .int .i64 x.num, .string x.text, .slice A1 x.names.length c1, .slice A2 x.kids.length c2] 26)) w.heap.size 26 [.int .i64 x.sort, .int .i64 x.num, .string x.text, .slice A1 x.names.length c1, .slice A2 x.kids.length c2] := Row.new w _ _
  have fl1 := hf.left
  have fl2 := (hf).right
  have le2 := Tree.mkS_le _ _ _ m2
  have le1 : a ≤ e1 := by have := m1.1; omega
  have O1 := hide o1
  have HM1 := hide m1
  have O2 := hide o2
  have HM2 := hide m2
  have B0 := hide hw0
  clear ho hf hw0 o1 m1 o2 m2
  go_enter Tryz.func72, Tryz.ntmps72
  go_wp2_with fail
  refine (heldStringS_any x.names _ _ _ f1 _ a e1 _ (by omega) (O1.out.below B0.out fl1) (fl1.up B0.out) HM1.out (by omega)).mono ?_
  rintro e w1_ ⟨rfl, hb1⟩
  have B1 := hide (B0.out.trans (hb1.mono B0.out.size))
  have R1 := R0.below hb1 R0.lt
  have lt1 := R1.lt
  have cc1 := R1.cell 4
  clear hb1
  go_wp2_with fail
  refine (heldTreeS_any x.kids _ _ _ f2 _ e1 b _ (by omega) (O2.out.below B1.out fl2) (fl2.up B1.out) HM2.out (by omega)).mono ?_
  rintro e w2_ ⟨rfl, hb2⟩
  have B2 := hide (B1.out.trans (hb2.mono B1.out.size))
  have R2 := R1.below hb2 R1.lt
  have lt2 := R2.lt
  clear hb2
  go_wp2
  go_ret
  exact ⟨rfl, B2.out⟩
end Go.Proofs.YtnaecdoeldoipaaGreatDoor
set_option linter.unusedVariables false
set_option linter.unusedSimpArgs false
namespace Go.Proofs.YtnaecdoeldoipaaGreatDoor
open Go.ChangeShapes Go.WideShapes Go.ChangeAt Go.RowKit

theorem BK.of {b : Nat} {w w' : World} (hb : Below w.heap.size w w') (h : b ≤ w.heap.size) : BK b w w' :=
  ⟨hb.mono h, fun k o hk _ _ => by
    have hlt : k < w.heap.size := (Array.getElem?_eq_some_iff.1 hk).1
    rw [hb.block k hlt]
    exact hk⟩
theorem kidHead_4 (ns : List ByteArray) (i : Nat) : kidHead 4 ns i = if i = 0 then ⟨#[]⟩ else ⟨#[44]⟩ := by
  unfold kidHead
  rw [if_neg (show ¬ ((4 : Int) = 5) by omega)]
  exact ByteArray.append_empty
theorem kidHead_5 {ns : List ByteArray} {i : Nat} (h : i < ns.length) : kidHead 5 ns i = (if i = 0 then ⟨#[]⟩ else ⟨#[44]⟩) ++ (ns[i] ++ ⟨#[58]⟩) := by
  unfold kidHead
  rw [if_pos rfl, List.getElem?_eq_getElem h]
  rfl
set_option maxRecDepth 100000 in
theorem index_noyes (q : Nat) (h : q < 2) (u : World) : (Instr.index 130 (.agg #[.string ⟨#[110, 111]⟩, .string ⟨#[121, 101, 115]⟩]) (.int .i64 (q : Int))).run Tryz.prog u = .ok (.string ([⟨#[110, 111]⟩, ⟨#[121, 101, 115]⟩][q]'(by simpa using h))) u := by
  obtain rfl | rfl : q = 0 ∨ q = 1 := by omega
  all_goals rfl
theorem ba_nil (a : ByteArray) : (⟨#[]⟩ : ByteArray) ++ a = a := ByteArray.empty_append
theorem ba_empty (a : ByteArray) : a ++ .empty = a := ByteArray.append_empty
def WriteTree (k : Tree) : Prop := ∀ (us : List Value) (fp : List Nat) (lv b : Nat) (s : ByteArray) (w : World), OwC w k.cells us fp → Lt fp b → k.bulk ≤ 1048576 → k.good lv → k.parts ≤ 120 → Tab w → 3 < b → Bld w b s → s.size + 80 * k.parts ≤ 1048576 →
  Calls Tryz.prog 95 #[.agg us.toArray, .pointer (some ⟨b, 0, none⟩)] w fun e w' => e = .returned (.tuple #[]) ∧ Bld w' b (s ++ k.wr) ∧ BK b w w'
def KidsTree (k : Tree) : Prop := ∀ (us : List Value) (fp : List Nat) (lv b : Nat) (s : ByteArray) (w : World), OwC w k.cells us fp → Lt fp b → k.bulk ≤ 1048576 → k.good lv → k.parts ≤ 120 → Tab w → 3 < b → Bld w b s → s.size + 80 * Tree.partsS k.kids + 40 ≤ 1048576 →
  Calls Tryz.prog 134 #[.agg us.toArray, .pointer (some ⟨b, 0, none⟩)] w fun e w' => e = .returned (.tuple #[]) ∧ Bld w' b (s ++ Tree.wrS k.sort k.names 0 k.kids) ∧ BK b w w'
set_option maxRecDepth 100000 in
set_option maxHeartbeats 8000000 in
theorem kidsTree_4 (k : Tree) (ih : ∀ x ∈ k.kids, WriteTree x) (h1 : k.sort = 4) : KidsTree k := by
  intro us fp lv b s w ho hf hbk hg hp ht hg0 hbld hsize
  obtain ⟨A1, c1, A2, c2, f1, f2, rfl, w0, w1, w2, o1, o2, rfl⟩ := ho.oTree
  clear ho
  have hgk := (Tree.good_iff _ _).1 hg
  have hpk := k.parts_eq
  have hkb := k.bulk_eq
  unfold bulkStrs at hkb
  have hall := hide (fun j => Tree.wrS_size k.sort k.names (Tree.names_small hgk.2.1) (k.kids.take j) 0 (fun x hx => Tree.wr_size x _ (Tree.goodS_mem _ _ hgk.2.2 x (List.mem_of_mem_take hx))))
  have hbw := hbld.lt
  have s6 : (ByteArray.mk #[44]).size = 1 := rfl
  have s7 : (ByteArray.mk #[58]).size = 1 := rfl
  have hkl : k.kids.length ≤ 1048576 := by omega
  have hnl : k.names.length ≤ 1048576 := by omega
  have hbS : Tree.bulkS k.kids ≤ 1048576 := by omega
  rw [h1] at hall ⊢
  have HGG := hide hgk.2.2
  have HI := hide ih
  have HO1 := hide o1
  have HO2 := hide o2
  have HF1 := hide hf.left
  have HF2 := hide hf.right
  have HT := hide ht
  have hgw : w.heap.size ≠ b := by omega
  have HKw := hide ((BK.refl b w).alloc (Nat.le_of_lt hbw) (.cells #[.int .i64 4, .int .i64 k.num, .string k.text, .slice A1 k.names.length c1, .slice A2 k.kids.length c2] 26))
  have HBw := hide (hbld.alloc (.cells #[.int .i64 4, .int .i64 k.num, .string k.text, .slice A1 k.names.length c1, .slice A2 k.kids.length c2] 26))
  have RW : Row (w.alloc (.cells #[.int .i64 4, .int .i64 k.num, .string k.text, .slice A1 k.names.length c1, .slice A2 k.kids.length c2] 26)) w.heap.size 26 [.int .i64 4, .int .i64 k.num, .string k.text, .slice A1 k.names.length c1, .slice A2 k.kids.length c2] := Row.new w _ _
  have HRw := hide RW
  have m0 := RW.cell 0
  have m3 := RW.cell 3
  have m4 := RW.cell 4
  have ml := RW.lt
  clear o1 o2 ih hg hgk hbld h1 w0 hkb hbk hf ht RW
  go_enter Tryz.func134, Tryz.ntmps134
  go_wp2_with fail
  go_loopw [9] (fun i wr => ∃ j : Nat, i = .int .i64 (j : Int) ∧ j ≤ k.kids.length ∧ Bld wr b (s ++ Tree.wrS 4 k.names 0 (k.kids.take j)) ∧ BK b w wr ∧ Row wr w.heap.size 26 [.int .i64 4, .int .i64 k.num, .string k.text, .slice A1 k.names.length c1, .slice A2 k.kids.length c2]) (fun i _ => k.kids.length - (intOf i).toNat)
  case atStart => exact ⟨0, rfl, Nat.zero_le _, by rw [List.take_zero]; unfold Tree.wrS; rw [ba_empty]; exact HBw.out, HKw.out, HRw.out⟩
  case round =>
    obtain ⟨j, rfl, hj, hbb, hkk, hrr⟩ := hrel
    have HB0 := hide hbb
    have HKr := hide hkk
    have HRr := hide hrr
    have hbr := hbb.lt
    clear m0 m3 m4 ml hbb hkk hrr
    by_cases hlt : j < k.kids.length
    · have hltI : (j : Int) < (k.kids.length : Int) := by omega
      have hj0 : (0 : Int) ≤ (j : Int) := by omega
      obtain ⟨g, off, vs, fi, rfl, hgm, hfi, hvl, hcs, hov⟩ := (HO2.out.below HKr.out.below HF2.out).elem Tree.cells_len hlt
      have HOV := hide hov
      obtain ⟨B1, d1, B2, d2, q1, q2, rfl, v0, v1, v2, x1, x2, rfl⟩ := hov.oTree
      have p0 := hcs 0 _ rfl
      have p1 := hcs 1 _ rfl
      have p2 := hcs 2 _ rfl
      have p3 := hcs 3 _ rfl
      have p4 := hcs 4 _ rfl
      simp only [Nat.add_zero] at p0
      have hgl : g < wr.heap.size := Nat.lt_trans (HF2.out g hgm) hbr
      have HFQ := hide ((HF2.out).sub hfi)
      have HC := hide (HI.out _ (List.getElem_mem hlt))
      have HGX := hide (Tree.goodS_mem _ _ HGG.out _ (List.getElem_mem hlt))
      have hpx := Tree.partsS_at k.kids j hlt
      have hps := Tree.partsS_snoc k.kids j hlt
      have hpl := Tree.partsS_le k.kids (j + 1)
      have hbx := Tree.bulk_at k.kids j hlt
      have hcs1 := Tree.wrS_size 4 k.names
      have hcur := hall.out j
      have HS := hide ((Tree.wrS_snoc 4 k.names k.kids 0 j hlt).trans (by rw [Nat.zero_add, kidHead_4]))
      clear x1 x2 hov hcs hcs1
      generalize k.kids[j] = x at *
      generalize Tree.wrS 4 k.names 0 (k.kids.take j) = cur at *
      have r0 := HRr.out.cell 0
      have r3 := HRr.out.cell 3
      have r4 := HRr.out.cell 4
      have rl := HRr.out.lt
      go_upto_region 4 with fail
      have HRW1 := hide (HRr.out.alloc (.cells #[.int .i64 x.sort, .int .i64 x.num, .string x.text, .slice B1 x.names.length d1, .slice B2 x.kids.length d2] 26))
      have HRX1 := hide (show Row (wr.alloc (.cells #[.int .i64 x.sort, .int .i64 x.num, .string x.text, .slice B1 x.names.length d1, .slice B2 x.kids.length d2] 26)) wr.heap.size 26 [.int .i64 x.sort, .int .i64 x.num, .string x.text, .slice B1 x.names.length d1, .slice B2 x.kids.length d2] from Row.new wr _ _)
      have HB1 := hide (HB0.out.alloc (.cells #[.int .i64 x.sort, .int .i64 x.num, .string x.text, .slice B1 x.names.length d1, .slice B2 x.kids.length d2] 26))
      have HKa := hide (HKr.out.alloc (Nat.le_of_lt hbr) (.cells #[.int .i64 x.sort, .int .i64 x.num, .string x.text, .slice B1 x.names.length d1, .slice B2 x.kids.length d2] 26))
      have HQ1 := hide ((BK.refl b wr).alloc (Nat.le_of_lt hbr) (.cells #[.int .i64 x.sort, .int .i64 x.num, .string x.text, .slice B1 x.names.length d1, .slice B2 x.kids.length d2] 26))
      have hgx0 : wr.heap.size ≠ b := by omega
      clear r0 r3 r4 rl p0 p1 p2 p3 p4 HRr HB0 HKr
      generalize wr.alloc _ = W1 at HRW1 HRX1 HB1 HKa HQ1 ⊢
      generalize hgx : wr.heap.size = gx at HRX1 hgx0 ⊢
      clear hgx
      by_cases hz : j = 0
      · rw [if_pos hz] at HS
        have HKc1 := HKa
        clear HKa
        subst hz
        have y0 := HRW1.out.cell 0
        have y3 := HRW1.out.cell 3
        have yl := HRW1.out.lt
        have z0 := HRX1.out.cell 0
        have z1 := HRX1.out.cell 1
        have z2 := HRX1.out.cell 2
        have z3 := HRX1.out.cell 3
        have z4 := HRX1.out.cell 4
        have zl := HRX1.out.lt
        go_wp2_with fail
        refine (HC.out _ _ (lv + 1) b _ _ (HOV.out.below HQ1.out.below HFQ.out) HFQ.out (by omega) HGX.out (by omega) (HT.out.low HKc1.out.below hg0) hg0 HB1.out (by simp only [ByteArray.size_append]; omega)).mono ?_
        rintro e w9 ⟨rfl, hb9, hk9⟩
        clear y0 y3 yl
        clear z0 z1 z2 z3 z4 zl
        have HB9 := hide hb9
        have HKc9 := hide (HKc1.out.trans hk9)
        have HQ9 := hide (HQ1.out.trans hk9)
        have HRW9 := hide (hk9.row HRW1.out hgw (by decide))
        have HRX9 := hide (hk9.row HRX1.out hgx0 (by decide))
        clear hb9 hk9 HB1 HKc1 HQ1 HRW1 HRX1
        go_wp2
        go_roundw
        case rel => exact ⟨1, by go_num, by omega, by rw [show (1 : Nat) = 0 + 1 from rfl, HS.out]; simpa only [ByteArray.append_assoc, ba_nil] using HB9.out, HKc9.out, HRW9.out⟩
        case measure => simp [intOf]; omega
      · rw [if_neg hz] at HS
        have HKc1 := HKa
        clear HKa
        have hzI : (0 : Int) < (j : Int) := by omega
        have y0 := HRW1.out.cell 0
        have y3 := HRW1.out.cell 3
        have yl := HRW1.out.lt
        go_wp2_with fail
        refine (writeByte_b b _ 44 _ _ (by rfl) HB1.out (by simp only [ByteArray.size_append]; omega)).mono ?_
        rintro e w5 ⟨rfl, hb5, hk5⟩
        clear y0 y3 yl
        have HB5 := hide hb5
        have HKc5 := hide (HKc1.out.trans hk5)
        have HQ5 := hide (HQ1.out.trans hk5)
        have HRW5 := hide (hk5.row HRW1.out hgw (by decide))
        have HRX5 := hide (hk5.row HRX1.out hgx0 (by decide))
        clear hb5 hk5 HB1 HKc1 HQ1 HRW1 HRX1
        have y0 := HRW5.out.cell 0
        have y3 := HRW5.out.cell 3
        have yl := HRW5.out.lt
        have z0 := HRX5.out.cell 0
        have z1 := HRX5.out.cell 1
        have z2 := HRX5.out.cell 2
        have z3 := HRX5.out.cell 3
        have z4 := HRX5.out.cell 4
        have zl := HRX5.out.lt
        go_wp2_with fail
        refine (HC.out _ _ (lv + 1) b _ _ (HOV.out.below HQ5.out.below HFQ.out) HFQ.out (by omega) HGX.out (by omega) (HT.out.low HKc5.out.below hg0) hg0 HB5.out (by simp only [ByteArray.size_append]; omega)).mono ?_
        rintro e w9 ⟨rfl, hb9, hk9⟩
        clear y0 y3 yl
        clear z0 z1 z2 z3 z4 zl
        have HB9 := hide hb9
        have HKc9 := hide (HKc5.out.trans hk9)
        have HQ9 := hide (HQ5.out.trans hk9)
        have HRW9 := hide (hk9.row HRW5.out hgw (by decide))
        have HRX9 := hide (hk9.row HRX5.out hgx0 (by decide))
        clear hb9 hk9 HB5 HKc5 HQ5 HRW5 HRX5
        go_wp2
        go_roundw
        case rel => exact ⟨j + 1, by go_num, by omega, by rw [HS.out]; simpa only [ByteArray.append_assoc, ba_nil] using HB9.out, HKc9.out, HRW9.out⟩
        case measure => simp [intOf]; omega
    · obtain rfl : j = k.kids.length := by omega
      have HZ := hide (show Bld wr b (s ++ Tree.wrS 4 k.names 0 k.kids) from by have h := HB0.out; rwa [List.take_length] at h)
      clear HB0
      go_wp2
      go_end0
      exact ⟨rfl, HZ.out, HKr.out⟩
set_option maxRecDepth 100000 in
set_option maxHeartbeats 8000000 in
theorem kidsTree_5 (k : Tree) (ih : ∀ x ∈ k.kids, WriteTree x) (h1 : k.sort = 5) : KidsTree k := by
  intro us fp lv b s w ho hf hbk hg hp ht hg0 hbld hsize
  obtain ⟨A1, c1, A2, c2, f1, f2, rfl, w0, w1, w2, o1, o2, rfl⟩ := ho.oTree
  clear ho
  have hgk := (Tree.good_iff _ _).1 hg
  have hpk := k.parts_eq
  have hkb := k.bulk_eq
  unfold bulkStrs at hkb
  have hall := hide (fun j => Tree.wrS_size k.sort k.names (Tree.names_small hgk.2.1) (k.kids.take j) 0 (fun x hx => Tree.wr_size x _ (Tree.goodS_mem _ _ hgk.2.2 x (List.mem_of_mem_take hx))))
  have hbw := hbld.lt
  have s6 : (ByteArray.mk #[44]).size = 1 := rfl
  have s7 : (ByteArray.mk #[58]).size = 1 := rfl
  have hkl : k.kids.length ≤ 1048576 := by omega
  have hnl : k.names.length ≤ 1048576 := by omega
  have hbS : Tree.bulkS k.kids ≤ 1048576 := by omega
  have h5 : NamesOk k.names ∧ k.names.length = k.kids.length := by
    rcases hgk.2.1 with h | h | h | h | h | h
    · exact absurd h.1 (by omega)
    · exact absurd h.1 (by omega)
    · exact absurd h.1 (by omega)
    · exact absurd h.1 (by omega)
    · exact ⟨h.2.2.2.1, h.2.2.2.2⟩
    · exact absurd h.1 (by omega)
  have HK1 := hide h5.1
  have HK2 := hide h5.2
  clear h5
  rw [h1] at hall ⊢
  have HGG := hide hgk.2.2
  have HI := hide ih
  have HO1 := hide o1
  have HO2 := hide o2
  have HF1 := hide hf.left
  have HF2 := hide hf.right
  have HT := hide ht
  have hgw : w.heap.size ≠ b := by omega
  have HKw := hide ((BK.refl b w).alloc (Nat.le_of_lt hbw) (.cells #[.int .i64 5, .int .i64 k.num, .string k.text, .slice A1 k.names.length c1, .slice A2 k.kids.length c2] 26))
  have HBw := hide (hbld.alloc (.cells #[.int .i64 5, .int .i64 k.num, .string k.text, .slice A1 k.names.length c1, .slice A2 k.kids.length c2] 26))
  have RW : Row (w.alloc (.cells #[.int .i64 5, .int .i64 k.num, .string k.text, .slice A1 k.names.length c1, .slice A2 k.kids.length c2] 26)) w.heap.size 26 [.int .i64 5, .int .i64 k.num, .string k.text, .slice A1 k.names.length c1, .slice A2 k.kids.length c2] := Row.new w _ _
  have HRw := hide RW
  have m0 := RW.cell 0
  have m3 := RW.cell 3
  have m4 := RW.cell 4
  have ml := RW.lt
  clear o1 o2 ih hg hgk hbld h1 w0 hkb hbk hf ht RW
  go_enter Tryz.func134, Tryz.ntmps134
  go_wp2_with fail
  go_loopw [9] (fun i wr => ∃ j : Nat, i = .int .i64 (j : Int) ∧ j ≤ k.kids.length ∧ Bld wr b (s ++ Tree.wrS 5 k.names 0 (k.kids.take j)) ∧ BK b w wr ∧ Row wr w.heap.size 26 [.int .i64 5, .int .i64 k.num, .string k.text, .slice A1 k.names.length c1, .slice A2 k.kids.length c2]) (fun i _ => k.kids.length - (intOf i).toNat)
  case atStart => exact ⟨0, rfl, Nat.zero_le _, by rw [List.take_zero]; unfold Tree.wrS; rw [ba_empty]; exact HBw.out, HKw.out, HRw.out⟩
  case round =>
    obtain ⟨j, rfl, hj, hbb, hkk, hrr⟩ := hrel
    have HB0 := hide hbb
    have HKr := hide hkk
    have HRr := hide hrr
    have hbr := hbb.lt
    clear m0 m3 m4 ml hbb hkk hrr
    by_cases hlt : j < k.kids.length
    · have hltI : (j : Int) < (k.kids.length : Int) := by omega
      have hj0 : (0 : Int) ≤ (j : Int) := by omega
      obtain ⟨g, off, vs, fi, rfl, hgm, hfi, hvl, hcs, hov⟩ := (HO2.out.below HKr.out.below HF2.out).elem Tree.cells_len hlt
      have HOV := hide hov
      obtain ⟨B1, d1, B2, d2, q1, q2, rfl, v0, v1, v2, x1, x2, rfl⟩ := hov.oTree
      have p0 := hcs 0 _ rfl
      have p1 := hcs 1 _ rfl
      have p2 := hcs 2 _ rfl
      have p3 := hcs 3 _ rfl
      have p4 := hcs 4 _ rfl
      simp only [Nat.add_zero] at p0
      have hgl : g < wr.heap.size := Nat.lt_trans (HF2.out g hgm) hbr
      have HFQ := hide ((HF2.out).sub hfi)
      have HC := hide (HI.out _ (List.getElem_mem hlt))
      have HGX := hide (Tree.goodS_mem _ _ HGG.out _ (List.getElem_mem hlt))
      have hpx := Tree.partsS_at k.kids j hlt
      have hps := Tree.partsS_snoc k.kids j hlt
      have hpl := Tree.partsS_le k.kids (j + 1)
      have hbx := Tree.bulk_at k.kids j hlt
      have hcs1 := Tree.wrS_size 5 k.names
      have hcur := hall.out j
      have hln : j < k.names.length := by have := HK2.out; omega
      have hnx : k.names[j].size ≤ 8 := (HK1.out j hln).1.2.1
      have HS := hide ((Tree.wrS_snoc 5 k.names k.kids 0 j hlt).trans (by rw [Nat.zero_add, kidHead_5 hln]))
      clear x1 x2 hov hcs hcs1
      generalize k.kids[j] = x at *
      generalize Tree.wrS 5 k.names 0 (k.kids.take j) = cur at *
      have r0 := HRr.out.cell 0
      have r3 := HRr.out.cell 3
      have r4 := HRr.out.cell 4
      have rl := HRr.out.lt
      go_upto_region 4 with fail
      have HRW1 := hide (HRr.out.alloc (.cells #[.int .i64 x.sort, .int .i64 x.num, .string x.text, .slice B1 x.names.length d1, .slice B2 x.kids.length d2] 26))
      have HRX1 := hide (show Row (wr.alloc (.cells #[.int .i64 x.sort, .int .i64 x.num, .string x.text, .slice B1 x.names.length d1, .slice B2 x.kids.length d2] 26)) wr.heap.size 26 [.int .i64 x.sort, .int .i64 x.num, .string x.text, .slice B1 x.names.length d1, .slice B2 x.kids.length d2] from Row.new wr _ _)
      have HB1 := hide (HB0.out.alloc (.cells #[.int .i64 x.sort, .int .i64 x.num, .string x.text, .slice B1 x.names.length d1, .slice B2 x.kids.length d2] 26))
      have HKa := hide (HKr.out.alloc (Nat.le_of_lt hbr) (.cells #[.int .i64 x.sort, .int .i64 x.num, .string x.text, .slice B1 x.names.length d1, .slice B2 x.kids.length d2] 26))
      have HQ1 := hide ((BK.refl b wr).alloc (Nat.le_of_lt hbr) (.cells #[.int .i64 x.sort, .int .i64 x.num, .string x.text, .slice B1 x.names.length d1, .slice B2 x.kids.length d2] 26))
      have hgx0 : wr.heap.size ≠ b := by omega
      clear r0 r3 r4 rl p0 p1 p2 p3 p4 HRr HB0 HKr
      generalize wr.alloc _ = W1 at HRW1 HRX1 HB1 HKa HQ1 ⊢
      generalize hgx : wr.heap.size = gx at HRX1 hgx0 ⊢
      clear hgx
      by_cases hz : j = 0
      · rw [if_pos hz] at HS
        have HKc1 := HKa
        clear HKa
        subst hz
        have y0 := HRW1.out.cell 0
        have y3 := HRW1.out.cell 3
        have yl := HRW1.out.lt
        obtain ⟨ga, oa, us, fa, hA1, hga, hfa, hul, hca, hoa⟩ := (HO1.out.below HKc1.out.below HF1.out).elem strC_len hln
        obtain ⟨rfl, hs, rfl⟩ := hoa.str
        subst hA1
        have pa := hca 0 _ rfl
        simp only [Nat.add_zero, Nat.mul_one] at pa
        have hal : ga < W1.heap.size := Nat.lt_trans (HF1.out ga hga) HB1.out.lt
        clear hca hoa
        generalize k.names[0]'hln = nm at *
        go_wp2_with fail
        refine (writeString_b b _ _ _ HB1.out (by simp only [ByteArray.size_append]; omega)).mono ?_
        rintro e w6 ⟨rfl, hb6, hk6⟩
        clear pa hal
        clear y0 y3 yl
        have HB6 := hide hb6
        have HKc6 := hide (HKc1.out.trans hk6)
        have HQ6 := hide (HQ1.out.trans hk6)
        have HRW6 := hide (hk6.row HRW1.out hgw (by decide))
        have HRX6 := hide (hk6.row HRX1.out hgx0 (by decide))
        clear hb6 hk6 HB1 HKc1 HQ1 HRW1 HRX1
        have z0 := HRX6.out.cell 0
        have z1 := HRX6.out.cell 1
        have z2 := HRX6.out.cell 2
        have z3 := HRX6.out.cell 3
        have z4 := HRX6.out.cell 4
        have zl := HRX6.out.lt
        go_wp2_with fail
        refine (HC.out _ _ (lv + 1) b _ _ (HOV.out.below HQ6.out.below HFQ.out) HFQ.out (by omega) HGX.out (by omega) (HT.out.low HKc6.out.below hg0) hg0 HB6.out (by simp only [ByteArray.size_append]; omega)).mono ?_
        rintro e w9 ⟨rfl, hb9, hk9⟩
        clear z0 z1 z2 z3 z4 zl
        have HB9 := hide hb9
        have HKc9 := hide (HKc6.out.trans hk9)
        have HQ9 := hide (HQ6.out.trans hk9)
        have HRW9 := hide (hk9.row HRW6.out hgw (by decide))
        have HRX9 := hide (hk9.row HRX6.out hgx0 (by decide))
        clear hb9 hk9 HB6 HKc6 HQ6 HRW6 HRX6
        go_wp2
        go_roundw
        case rel => exact ⟨1, by go_num, by omega, by rw [show (1 : Nat) = 0 + 1 from rfl, HS.out]; simpa only [ByteArray.append_assoc, ba_nil] using HB9.out, HKc9.out, HRW9.out⟩
        case measure => simp [intOf]; omega
      · rw [if_neg hz] at HS
        have HKc1 := HKa
        clear HKa
        have hzI : (0 : Int) < (j : Int) := by omega
        have y0 := HRW1.out.cell 0
        have y3 := HRW1.out.cell 3
        have yl := HRW1.out.lt
        go_wp2_with fail
        refine (writeByte_b b _ 44 _ _ (by rfl) HB1.out (by simp only [ByteArray.size_append]; omega)).mono ?_
        rintro e w5 ⟨rfl, hb5, hk5⟩
        clear y0 y3 yl
        have HB5 := hide hb5
        have HKc5 := hide (HKc1.out.trans hk5)
        have HQ5 := hide (HQ1.out.trans hk5)
        have HRW5 := hide (hk5.row HRW1.out hgw (by decide))
        have HRX5 := hide (hk5.row HRX1.out hgx0 (by decide))
        clear hb5 hk5 HB1 HKc1 HQ1 HRW1 HRX1
        have y0 := HRW5.out.cell 0
        have y3 := HRW5.out.cell 3
        have yl := HRW5.out.lt
        obtain ⟨ga, oa, us, fa, hA1, hga, hfa, hul, hca, hoa⟩ := (HO1.out.below HKc5.out.below HF1.out).elem strC_len hln
        obtain ⟨rfl, hs, rfl⟩ := hoa.str
        subst hA1
        have pa := hca 0 _ rfl
        simp only [Nat.add_zero, Nat.mul_one] at pa
        have hal : ga < w5.heap.size := Nat.lt_trans (HF1.out ga hga) HB5.out.lt
        clear hca hoa
        generalize k.names[j]'hln = nm at *
        go_wp2_with fail
        refine (writeString_b b _ _ _ HB5.out (by simp only [ByteArray.size_append]; omega)).mono ?_
        rintro e w6 ⟨rfl, hb6, hk6⟩
        clear pa hal
        clear y0 y3 yl
        have HB6 := hide hb6
        have HKc6 := hide (HKc5.out.trans hk6)
        have HQ6 := hide (HQ5.out.trans hk6)
        have HRW6 := hide (hk6.row HRW5.out hgw (by decide))
        have HRX6 := hide (hk6.row HRX5.out hgx0 (by decide))
        clear hb6 hk6 HB5 HKc5 HQ5 HRW5 HRX5
        have z0 := HRX6.out.cell 0
        have z1 := HRX6.out.cell 1
        have z2 := HRX6.out.cell 2
        have z3 := HRX6.out.cell 3
        have z4 := HRX6.out.cell 4
        have zl := HRX6.out.lt
        go_wp2_with fail
        refine (HC.out _ _ (lv + 1) b _ _ (HOV.out.below HQ6.out.below HFQ.out) HFQ.out (by omega) HGX.out (by omega) (HT.out.low HKc6.out.below hg0) hg0 HB6.out (by simp only [ByteArray.size_append]; omega)).mono ?_
        rintro e w9 ⟨rfl, hb9, hk9⟩
        clear z0 z1 z2 z3 z4 zl
        have HB9 := hide hb9
        have HKc9 := hide (HKc6.out.trans hk9)
        have HQ9 := hide (HQ6.out.trans hk9)
        have HRW9 := hide (hk9.row HRW6.out hgw (by decide))
        have HRX9 := hide (hk9.row HRX6.out hgx0 (by decide))
        clear hb9 hk9 HB6 HKc6 HQ6 HRW6 HRX6
        go_wp2
        go_roundw
        case rel => exact ⟨j + 1, by go_num, by omega, by rw [HS.out]; simpa only [ByteArray.append_assoc, ba_nil] using HB9.out, HKc9.out, HRW9.out⟩
        case measure => simp [intOf]; omega
    · obtain rfl : j = k.kids.length := by omega
      have HZ := hide (show Bld wr b (s ++ Tree.wrS 5 k.names 0 k.kids) from by have h := HB0.out; rwa [List.take_length] at h)
      clear HB0
      go_wp2
      go_end0
      exact ⟨rfl, HZ.out, HKr.out⟩
theorem kidsTree_of (k : Tree) (ih : ∀ x ∈ k.kids, WriteTree x) (h : k.sort = 4 ∨ k.sort = 5) : KidsTree k := h.elim (kidsTree_4 k ih) (kidsTree_5 k ih)
set_option maxRecDepth 100000 in
set_option maxHeartbeats 8000000 in
theorem writeTree_of (k : Tree) (ih : ∀ x ∈ k.kids, WriteTree x) : WriteTree k := by
  intro us fp lv b s w ho hf hbk hg hp ht hg0 hbld hsize
  have HHO := hide ho
  obtain ⟨A1, c1, A2, c2, f1, f2, rfl, w0, w1, w2, o1, o2, rfl⟩ := ho.oTree
  clear ho
  have hgk := (Tree.good_iff _ _).1 hg
  have hpk := k.parts_eq
  have hkb := k.bulk_eq
  unfold bulkStrs at hkb
  have HTX := hide k.wr_eq
  have hbw := hbld.lt
  have hgw : w.heap.size ≠ b := by omega
  have s1 : (ByteArray.mk #[34]).size = 1 := rfl
  have s2 : (ByteArray.mk #[91]).size = 1 := rfl
  have s3 : (ByteArray.mk #[123]).size = 1 := rfl
  have s4 : (ByteArray.mk #[63]).size = 1 := rfl
  have s5 : (ByteArray.mk #[121, 101, 115]).size = 3 := rfl
  have s6 : (ByteArray.mk #[110, 111]).size = 2 := rfl
  have HKw := hide ((BK.refl b w).alloc (Nat.le_of_lt hbw) (.cells #[.int .i64 k.sort, .int .i64 k.num, .string k.text, .slice A1 k.names.length c1, .slice A2 k.kids.length c2] 26))
  have HBw := hide (hbld.alloc (.cells #[.int .i64 k.sort, .int .i64 k.num, .string k.text, .slice A1 k.names.length c1, .slice A2 k.kids.length c2] 26))
  have RW : Row (w.alloc (.cells #[.int .i64 k.sort, .int .i64 k.num, .string k.text, .slice A1 k.names.length c1, .slice A2 k.kids.length c2] 26)) w.heap.size 26 [.int .i64 k.sort, .int .i64 k.num, .string k.text, .slice A1 k.names.length c1, .slice A2 k.kids.length c2] := Row.new w _ _
  have HRw := hide RW
  have HT := hide ht
  have HF := hide hf
  clear RW ht hbld
  rcases hgk.2.1 with ⟨h1, h2, -⟩ | ⟨h1, -, h3, -⟩ | ⟨h1, h2, -⟩ | ⟨h1, -⟩ | ⟨h1, -⟩ | ⟨h1, -, -, h4, h5⟩
  · have HE := hide (show k.wr = dec k.num from by rw [HTX.out, if_pos h1])
    have HIT := hide (fun (W : World) (hb : Below b w W) => itoa_any k.num (by omega) (by omega) W (HT.out.low hb hg0))
    have hd := dec_size k.num (by omega) (by omega)
    clear o1 o2 ih hg hgk hkb HHO h2
    generalize k.sort = q at *
    subst h1
    go_enter Tryz.func95, Tryz.ntmps95
    go_wp2_with fail
    refine (HIT.out _ HKw.out.below).mono ?_
    rintro e w3 ⟨rfl, hb3⟩
    have HB3 := hide (HBw.out.below hb3)
    have HK3 := hide (HKw.out.trans (BK.of hb3 (by rw [World.size_alloc]; omega)))
    clear hb3
    go_wp2_with fail
    refine (writeString_b b _ _ _ HB3.out (by omega)).mono ?_
    rintro e w4 ⟨rfl, hb4, hk4⟩
    have HB4 := hide hb4
    have HK4 := hide (HK3.out.trans hk4)
    clear hb4 hk4
    go_wp2
    go_end0
    exact ⟨rfl, by rw [HE.out]; exact HB4.out, HK4.out⟩
  · have hx := h3.1
    have HE := hide (show k.wr = ⟨#[34]⟩ ++ k.text ++ ⟨#[34]⟩ from by rw [HTX.out, if_neg (by omega), if_pos h1])
    clear o1 o2 ih hg hgk hkb HHO h3
    generalize k.sort = q at *
    generalize k.text = x at *
    subst h1
    go_enter Tryz.func95, Tryz.ntmps95
    go_wp2_with fail
    refine (writeString_b b _ _ _ HBw.out (by simp only [ByteArray.size_append]; omega)).mono ?_
    rintro e w4 ⟨rfl, hb4, hk4⟩
    have HB4 := hide hb4
    have HK4 := hide (HKw.out.trans hk4)
    clear hb4 hk4
    go_wp2
    go_end0
    exact ⟨rfl, by rw [HE.out]; exact HB4.out, HK4.out⟩
  · have HE := hide (show k.wr = if k.num = 1 then ⟨#[121, 101, 115]⟩ else ⟨#[110, 111]⟩ from by rw [HTX.out, if_neg (by omega), if_neg (by omega), if_pos h1])
    clear o1 o2 ih hg hgk hkb HHO
    generalize k.sort = q at *
    subst h1
    by_cases hn : k.num = 1
    · rw [if_pos hn] at HE

      generalize k.num = n at *
      subst hn
      have hix : ∀ u : World, (Instr.index 130 (.agg #[.string ⟨#[110, 111]⟩, .string ⟨#[121, 101, 115]⟩]) (.int .i64 1)).run Tryz.prog u = .ok (.string ⟨#[121, 101, 115]⟩) u := fun u => index_noyes 1 (by omega) u
      go_enter Tryz.func95, Tryz.ntmps95
      go_wp2_with fail
      refine (writeString_b b s ⟨#[121, 101, 115]⟩ _ HBw.out (by omega)).mono ?_
      rintro e w4 ⟨rfl, hb4, hk4⟩
      have HB4 := hide hb4
      have HK4 := hide (HKw.out.trans hk4)
      clear hb4 hk4
      go_wp2
      go_end0
      exact ⟨rfl, by rw [HE.out]; exact HB4.out, HK4.out⟩
    · rw [if_neg hn] at HE
      obtain hn : k.num = 0 := by omega
      generalize k.num = n at *
      subst hn
      have hix : ∀ u : World, (Instr.index 130 (.agg #[.string ⟨#[110, 111]⟩, .string ⟨#[121, 101, 115]⟩]) (.int .i64 0)).run Tryz.prog u = .ok (.string ⟨#[110, 111]⟩) u := fun u => index_noyes 0 (by omega) u
      go_enter Tryz.func95, Tryz.ntmps95
      go_wp2_with fail
      refine (writeString_b b s ⟨#[110, 111]⟩ _ HBw.out (by omega)).mono ?_
      rintro e w4 ⟨rfl, hb4, hk4⟩
      have HB4 := hide hb4
      have HK4 := hide (HKw.out.trans hk4)
      clear hb4 hk4
      go_wp2
      go_end0
      exact ⟨rfl, by rw [HE.out]; exact HB4.out, HK4.out⟩
  · have HE := hide (show k.wr = ⟨#[91]⟩ ++ Tree.wrS k.sort k.names 0 k.kids ++ ⟨#[93]⟩ from by rw [HTX.out, if_neg (by omega), if_neg (by omega), if_neg (by omega), if_pos h1])
    have HKD := hide (kidsTree_of k ih (by omega))
    have HG := hide hg
    have hkd := hide (Tree.wrS_size k.sort k.names (Tree.names_small hgk.2.1) k.kids 0 (fun x hx => Tree.wr_size x _ (Tree.goodS_mem _ _ hgk.2.2 x hx)))
    have z1 : (ByteArray.mk #[93]).size = 1 := rfl
    have m0 : (w.alloc (.cells #[.int .i64 k.sort, .int .i64 k.num, .string k.text, .slice A1 k.names.length c1, .slice A2 k.kids.length c2] 26)).cell? ⟨w.heap.size, 0, none⟩ = some (.int .i64 4) := by rw [← h1]; exact HRw.out.cell 0
    have ml := HRw.out.lt
    have HB1 := hide (BK.refl b w)
    clear o1 o2 ih hg hgk hkb
    rw [h1] at HBw HKw HRw HHO HE hkd m0 ml ⊢
    have HKD2 := hide (fun (us : List Value) (fp : List Nat) (s' : ByteArray) (W : World) (h1' : OwC W k.cells us fp) (h2' : Lt fp b) (h3' : Tab W) (h4' : Bld W b s') (h5' : s'.size + 80 * Tree.partsS k.kids + 40 ≤ 1048576) => show Calls Tryz.prog 134 #[.agg us.toArray, .pointer (some ⟨b, 0, none⟩)] W (fun e w' => e = .returned (.tuple #[]) ∧ Bld w' b (s' ++ Tree.wrS 4 k.names 0 k.kids) ∧ BK b W w') from by
      have h := HKD.out us fp lv b s' W h1' h2' hbk HG.out hp h3' hg0 h4' h5'
      rwa [h1] at h)
    clear HKD HB1 h1
    go_enter Tryz.func95, Tryz.ntmps95
    go_wp2_with fail
    refine (writeByte_b b _ 91 _ _ (by rfl) HBw.out (by omega)).mono ?_
    rintro e w3 ⟨rfl, hb3, hk3⟩
    have HB3 := hide hb3
    have HK3 := hide (HKw.out.trans hk3)
    have HR3 := hide (hk3.row HRw.out hgw (by decide))
    clear hb3 hk3 m0 ml HKw HRw HBw
    have m0 := HR3.out.cell 0
    have m1 := HR3.out.cell 1
    have m2 := HR3.out.cell 2
    have m3 := HR3.out.cell 3
    have m4 := HR3.out.cell 4
    have ml := HR3.out.lt
    go_wp2_with fail
    refine (HKD2.out _ _ _ _ (HHO.out.below HK3.out.below HF.out) HF.out (HT.out.low HK3.out.below hg0) HB3.out (by simp only [ByteArray.size_append]; omega)).mono ?_
    rintro e w4 ⟨rfl, hb4, hk4⟩
    have HB4 := hide hb4
    have HK4 := hide (HK3.out.trans hk4)
    clear hb4 hk4 HB3 HK3 HR3
    clear m0 m1 m2 m3 m4 ml
    have hkd2 := hkd.out
    go_wp2_with fail
    refine (writeByte_b b _ 93 _ _ (by rfl) HB4.out (by simp only [ByteArray.size_append]; omega)).mono ?_
    rintro e w5 ⟨rfl, hb5, hk5⟩
    have HB5 := hide hb5
    have HK5 := hide (HK4.out.trans hk5)
    clear hb5 hk5 HB4 HK4
    go_wp2
    go_end0
    exact ⟨rfl, by rw [HE.out]; simpa only [ByteArray.append_assoc] using HB5.out, HK5.out⟩
  · have HE := hide (show k.wr = ⟨#[123]⟩ ++ Tree.wrS k.sort k.names 0 k.kids ++ ⟨#[125]⟩ from by rw [HTX.out, if_neg (by omega), if_neg (by omega), if_neg (by omega), if_neg (by omega), if_pos h1])
    have HKD := hide (kidsTree_of k ih (by omega))
    have HG := hide hg
    have hkd := hide (Tree.wrS_size k.sort k.names (Tree.names_small hgk.2.1) k.kids 0 (fun x hx => Tree.wr_size x _ (Tree.goodS_mem _ _ hgk.2.2 x hx)))
    have z1 : (ByteArray.mk #[125]).size = 1 := rfl
    have m0 : (w.alloc (.cells #[.int .i64 k.sort, .int .i64 k.num, .string k.text, .slice A1 k.names.length c1, .slice A2 k.kids.length c2] 26)).cell? ⟨w.heap.size, 0, none⟩ = some (.int .i64 5) := by rw [← h1]; exact HRw.out.cell 0
    have ml := HRw.out.lt
    have HB1 := hide (BK.refl b w)
    clear o1 o2 ih hg hgk hkb
    rw [h1] at HBw HKw HRw HHO HE hkd m0 ml ⊢
    have HKD2 := hide (fun (us : List Value) (fp : List Nat) (s' : ByteArray) (W : World) (h1' : OwC W k.cells us fp) (h2' : Lt fp b) (h3' : Tab W) (h4' : Bld W b s') (h5' : s'.size + 80 * Tree.partsS k.kids + 40 ≤ 1048576) => show Calls Tryz.prog 134 #[.agg us.toArray, .pointer (some ⟨b, 0, none⟩)] W (fun e w' => e = .returned (.tuple #[]) ∧ Bld w' b (s' ++ Tree.wrS 5 k.names 0 k.kids) ∧ BK b W w') from by
      have h := HKD.out us fp lv b s' W h1' h2' hbk HG.out hp h3' hg0 h4' h5'
      rwa [h1] at h)
    clear HKD HB1 h1
    go_enter Tryz.func95, Tryz.ntmps95
    go_wp2_with fail
    refine (writeByte_b b _ 123 _ _ (by rfl) HBw.out (by omega)).mono ?_
    rintro e w3 ⟨rfl, hb3, hk3⟩
    have HB3 := hide hb3
    have HK3 := hide (HKw.out.trans hk3)
    have HR3 := hide (hk3.row HRw.out hgw (by decide))
    clear hb3 hk3 m0 ml HKw HRw HBw
    have m0 := HR3.out.cell 0
    have m1 := HR3.out.cell 1
    have m2 := HR3.out.cell 2
    have m3 := HR3.out.cell 3
    have m4 := HR3.out.cell 4
    have ml := HR3.out.lt
    go_wp2_with fail
    refine (HKD2.out _ _ _ _ (HHO.out.below HK3.out.below HF.out) HF.out (HT.out.low HK3.out.below hg0) HB3.out (by simp only [ByteArray.size_append]; omega)).mono ?_
    rintro e w4 ⟨rfl, hb4, hk4⟩
    have HB4 := hide hb4
    have HK4 := hide (HK3.out.trans hk4)
    clear hb4 hk4 HB3 HK3 HR3
    clear m0 m1 m2 m3 m4 ml
    have hkd2 := hkd.out
    go_wp2_with fail
    refine (writeByte_b b _ 125 _ _ (by rfl) HB4.out (by simp only [ByteArray.size_append]; omega)).mono ?_
    rintro e w5 ⟨rfl, hb5, hk5⟩
    have HB5 := hide hb5
    have HK5 := hide (HK4.out.trans hk5)
    clear hb5 hk5 HB4 HK4
    go_wp2
    go_end0
    exact ⟨rfl, by rw [HE.out]; simpa only [ByteArray.append_assoc] using HB5.out, HK5.out⟩
  · have HE := hide (show k.wr = Tree.wrM k.kids from by rw [HTX.out, if_neg (by omega), if_neg (by omega), if_neg (by omega), if_neg (by omega), if_neg (by omega)])
    by_cases hk0 : k.kids.length = 0
    · have HE2 := hide (show k.wr = ⟨#[126]⟩ from by rw [HE.out, List.length_eq_zero_iff.1 hk0]; rfl)
      have q0 : ((k.kids.length : Int) == 0) = true := by simp [hk0]
      clear o1 o2 ih hg hgk hkb HE h4 h5 hk0 HHO
      generalize k.sort = q at *
      subst h1
      go_enter Tryz.func95, Tryz.ntmps95
      go_wp2_with fail
      refine (writeByte_b b _ 126 _ _ (by rfl) HBw.out (by omega)).mono ?_
      rintro e w4 ⟨rfl, hb4, hk4⟩
      have HB4 := hide hb4
      have HK4 := hide (HKw.out.trans hk4)
      clear hb4 hk4
      go_wp2
      (try simp only [Exit.inBlock, Exit.then])
      first
        | refine bodyPost_ret (results_none rfl _ _ _) rfl ?_
        | refine bodyPost_end (results_none rfl _ _ _) rfl ?_
      exact ⟨rfl, by rw [HE2.out]; exact HB4.out, HK4.out⟩
    · have hlt : 0 < k.kids.length := by omega
      obtain ⟨g, off, vs, fi, rfl, hgm, hfi, hvl, hcs, hov⟩ := o2.elem Tree.cells_len hlt
      have HOV := hide hov
      obtain ⟨B1, d1, B2, d2, q1, q2, rfl, v0, v1, v2, x1, x2, rfl⟩ := hov.oTree
      have p0 := hcs 0 _ rfl
      have p1 := hcs 1 _ rfl
      have p2 := hcs 2 _ rfl
      have p3 := hcs 3 _ rfl
      have p4 := hcs 4 _ rfl
      simp only [Nat.zero_mul, Nat.add_zero] at p0 p1 p2 p3 p4
      have hgb : g < b := hf.right g hgm
      have HFQ := hide ((hf.right).sub hfi)
      have HC := hide (ih _ (List.getElem_mem hlt))
      have HTK := hide (HE.out.trans (Tree.wrM_at k.kids hlt))
      have HGX := hide (Tree.goodS_mem _ _ hgk.2.2 _ (List.getElem_mem hlt))
      have hpx := Tree.partsS_at k.kids 0 hlt
      have hbx := Tree.bulk_at k.kids 0 hlt
      have q0 : ((k.kids.length : Int) == 0) = false := beq_eq_false_iff_ne.2 (by omega)
      have hltI : (0 : Int) < (k.kids.length : Int) := by omega
      have P0 := hide p0
      have P1 := hide p1
      have P2 := hide p2
      have P3 := hide p3
      have P4 := hide p4
      clear x1 x2 hov hcs o1 o2 ih hg hgk HE h4 h5 hk0 p0 p1 p2 p3 p4 HHO
      generalize k.kids[0] = x at *
      generalize k.sort = q at *
      subst h1
      go_enter Tryz.func95, Tryz.ntmps95
      go_wp2_with fail
      refine (writeByte_b b _ 63 _ _ (by rfl) HBw.out (by omega)).mono ?_
      rintro e w3 ⟨rfl, hb3, hk3⟩
      have HB3 := hide hb3
      have HK3 := hide (HKw.out.trans hk3)
      have RW3 := hk3.row HRw.out hgw (by decide)
      have r4 := RW3.cell 4
      have rl := RW3.lt
      have hgl : g < w.heap.size := by omega
      have m0 := (HK3.out.below.cell (p := ⟨g, off, none⟩) hgb).trans P0.out
      have m1 := (HK3.out.below.cell (p := ⟨g, off + 1, none⟩) hgb).trans P1.out
      have m2 := (HK3.out.below.cell (p := ⟨g, off + 2, none⟩) hgb).trans P2.out
      have m3 := (HK3.out.below.cell (p := ⟨g, off + 3, none⟩) hgb).trans P3.out
      have m4 := (HK3.out.below.cell (p := ⟨g, off + 4, none⟩) hgb).trans P4.out
      clear hb3 hk3
      go_wp2_with fail
      refine (HC.out _ _ (lv + 1) b _ _ (HOV.out.below HK3.out.below HFQ.out) HFQ.out (by omega) HGX.out (by omega) (HT.out.low HK3.out.below hg0) hg0 HB3.out (by simp only [ByteArray.size_append]; omega)).mono ?_
      rintro e w4 ⟨rfl, hb4, hk4⟩
      have HB4 := hide hb4
      have HK4 := hide (HK3.out.trans hk4)
      clear hb4 hk4 m0 m1 m2 m3 m4 r4 rl RW3
      go_wp2
      go_end0
      exact ⟨rfl, by rw [HTK.out]; simpa only [ByteArray.append_assoc] using HB4.out, HK4.out⟩
theorem writeTree_any (k : Tree) : WriteTree k := Tree.ind writeTree_of k
set_option maxRecDepth 100000 in
set_option maxHeartbeats 2000000 in
theorem treeText_any (k : Tree) (us : List Value) (fp : List Nat) (lv : Nat) (w : World) (ho : OwC w k.cells us fp) (hf : Lt fp w.heap.size) (hbk : k.bulk ≤ 1048576) (ht : Tab w) (hg : k.good lv) (hp : k.parts ≤ 120) :
    Calls Tryz.prog 45 #[.agg us.toArray] w fun e w' => e = .returned (.string k.wr) ∧ Below w.heap.size w w' := by
  obtain ⟨A1, c1, A2, c2, f1, f2, rfl, w0, w1, w2, o1, o2, rfl⟩ := ho.oTree
  have hA : Below w.heap.size w (w.alloc (.cells #[.int .i64 k.sort, .int .i64 k.num, .string k.text, .slice A1 k.names.length c1, .slice A2 k.kids.length c2] 26)) := (Below.refl _ _).alloc (Nat.le_refl _) _
  have HO := hide ho
  clear ho o1 o2
  go_enter Tryz.func45, Tryz.ntmps45
  go_upto_region 2 with fail
  generalize hwA : w.alloc (.cells #[.int .i64 k.sort, .int .i64 k.num, .string k.text, .slice A1 k.names.length c1, .slice A2 k.kids.length c2] 26) = wA at hA
  have hsA : wA.heap.size = w.heap.size + 1 := by rw [← hwA]; simp
  have RA : Row wA w.heap.size 26 [.int .i64 k.sort, .int .i64 k.num, .string k.text, .slice A1 k.names.length c1, .slice A2 k.kids.length c2] := by rw [← hwA]; exact Row.new w _ _
  have hB := Bld.new wA
  have hAB : Below wA.heap.size wA (wA.alloc (.cells #[.pointer none, .slice none 0 0] 107)) := (Below.refl _ _).alloc (Nat.le_refl _) _
  have RB := RA.below hAB RA.lt
  have hWB := hA.trans (hAB.mono hA.size)
  rw [hsA] at hB
  try simp only [hsA]
  clear hwA
  generalize hwB : wA.alloc _ = wB at hB RB hWB hAB ⊢
  obtain ⟨b, hbe⟩ : ∃ b, b = w.heap.size + 1 := ⟨_, rfl⟩
  rw [← hbe] at hB ⊢
  have hb1 : w.heap.size < b := by omega
  have hg0 := ht.lt
  have HB := hide hB
  have HW := hide hWB
  have HT := hide (ht.below hWB)
  have m0 := RB.cell 0
  have m1 := RB.cell 1
  have m2 := RB.cell 2
  have m3 := RB.cell 3
  have m4 := RB.cell 4
  have ml := RB.lt
  have s0 : (ByteArray.empty).size = 0 := rfl
  have HC := hide (writeTree_any k _ _ lv b .empty wB (HO.out.below hWB hf) (hf.mono (Nat.le_of_lt hb1)) hbk hg hp HT.out (by omega) hB (by omega))
  clear hwB hB RB hWB hAB RA hA hsA hbe
  go_wp2_with fail
  refine HC.out.mono ?_
  rintro e w3 ⟨rfl, hb3, hk3⟩
  have HB3 := hide hb3
  have HK3 := hide hk3
  clear hb3 hk3 m0 m1 m2 m3 m4 ml
  go_wp2_with fail
  refine (bldString_b b _ _ HB3.out).mono ?_
  rintro e w4 ⟨rfl, hk4⟩
  have HK4 := hide (HK3.out.trans hk4)
  clear hk4
  go_wp2
  go_ret
  exact ⟨ret_str ByteArray.empty_append, HW.out.trans (HK4.out.below.mono (Nat.le_of_lt hb1))⟩
set_option maxRecDepth 100000 in
set_option maxHeartbeats 1000000 in
theorem implTreeWrite_any (k : Tree) (us : List Value) (fp : List Nat) (w : World) (ho : OwC w k.cells us fp) (hf : Lt fp w.heap.size) (hbk : k.bulk ≤ 1048576) (ht : Tab w) :
    Calls Tryz.prog 12 #[.agg us.toArray] w fun e w' => e = .returned (.string k.write) ∧ Below w.heap.size w w' := by
  obtain ⟨A1, c1, A2, c2, f1, f2, rfl, w0, w1, w2, o1, o2, rfl⟩ := ho.oTree
  have hw1 : Below w.heap.size w (w.alloc (.cells #[.int .i64 k.sort, .int .i64 k.num, .string k.text, .slice A1 k.names.length c1, .slice A2 k.kids.length c2] 26)) := (Below.refl _ _).alloc (Nat.le_refl _) _
  have R1 : Row (w.alloc (.cells #[.int .i64 k.sort, .int .i64 k.num, .string k.text, .slice A1 k.names.length c1, .slice A2 k.kids.length c2] 26)) w.heap.size 26 [.int .i64 k.sort, .int .i64 k.num, .string k.text, .slice A1 k.names.length c1, .slice A2 k.kids.length c2] := Row.new w _ _
  have HO := hide (ho.below hw1 hf)
  have HF := hide (hf.up hw1)
  have HT := hide (ht.below hw1)
  have HR := hide R1
  have HB := hide hw1
  have HC := hide (implTreeOk_any k _ _ _ HO.out HF.out hbk)
  clear ho o1 o2 hw1 R1
  go_enter Tryz.func12, Tryz.ntmps12
  go_wp2_with fail
  refine HC.out.mono ?_
  rintro e w3 ⟨rfl, hb3⟩
  have HO3 := hide (HO.out.below hb3 HF.out)
  have HF3 := hide (HF.out.up hb3)
  have HT3 := hide (HT.out.below hb3)
  have HB3 := hide (HB.out.trans (hb3.mono HB.out.size))
  have HR3 := hide (HR.out.below hb3 HR.out.lt)
  clear hb3 HC HO HF HT HB HR
  by_cases hok : k.ok
  · have HZ := hide (show k.write = k.wr from by unfold Tree.write; rw [if_pos (tb_true hok)])
    have HP := hide (treeText_any k _ _ 1 w3 HO3.out HF3.out hbk HT3.out hok.1 (by have := hok.2; omega))
    rw [tb_true hok]
    have x0 := HR3.out.cell 0
    have x1 := HR3.out.cell 1
    have x2 := HR3.out.cell 2
    have x3 := HR3.out.cell 3
    have x4 := HR3.out.cell 4
    have xl := HR3.out.lt
    clear hok
    go_wp2_with fail
    refine HP.out.mono ?_
    rintro e w4 ⟨rfl, hb4⟩
    go_wp2
    go_ret
    exact ⟨ret_str HZ.out.symm, HB3.out.trans (hb4.mono HB3.out.size)⟩
  · have HZ := hide (show k.write = .empty from by unfold Tree.write; rw [if_neg (by rw [tb_false hok]; simp)])
    rw [tb_false hok]
    clear hok
    go_wp2
    go_ret
    exact ⟨ret_str HZ.out.symm, HB3.out⟩
end Go.Proofs.YtnaecdoeldoipaaGreatDoor
set_option linter.unusedVariables false
set_option linter.unusedSimpArgs false
namespace Go.Proofs.YtnaecdoeldoipaaGreatDoor
open Go.ChangeShapes Go.WideShapes Go.ChangeAt Go.RowKit

set_option maxRecDepth 100000 in
set_option maxHeartbeats 2000000 in
theorem specTreeRead_any (s : ByteArray) (w : World) (hs : s.size ≤ maxLen) :
    Calls Tryz.prog 18 #[.string s] w (TreeReadRet s w) := by
  unfold maxLen at hs
  go_enter Tryz.func18, Tryz.ntmps18
  go_upto_region 1 with fail
  generalize hw1 : w.alloc _ = w1
  have hb1 : Below w.heap.size w w1 := by rw [← hw1]; exact (Below.refl _ _).alloc (Nat.le_refl _) _
  have HZ := hide (show Row w1 w.heap.size 26 [.int .i64 0, .int .i64 0, .string ⟨#[]⟩, .slice none 0 0, .slice none 0 0] from by rw [← hw1]; exact Row.new w _ _)
  have hz1 := HZ.out.lt
  have HB1 := hide hb1
  clear hw1 hb1
  by_cases hlen : (10000 : Int) < (s.size : Int)
  · have HN := hide (readT_long (s := s) (by omega))
    have z0 := HZ.out.cell 0
    have z1 := HZ.out.cell 1
    have z2 := HZ.out.cell 2
    have z3 := HZ.out.cell 3
    have z4 := HZ.out.cell 4
    have y0 := HZ.out.frozen 0
    have y1 := HZ.out.frozen 1
    have y2 := HZ.out.frozen 2
    have y3 := HZ.out.frozen 3
    have y4 := HZ.out.frozen 4
    go_wp2
    refine bodyPost_ret (ret_row_tmp rfl _ _ w.heap.size 26 [.int .i64 0, .int .i64 0, .string ⟨#[]⟩, .slice none 0 0, .slice none 0 0] (HZ.out.setAll [.int .i64 0, .int .i64 0, .string ⟨#[]⟩, .slice none 0 0, .slice none 0 0] rfl) _ _ rfl rfl Tryz.underlying26 rfl (by kernel_rfl)) rfl ?_
    exact trr_none HN.out (HB1.out.trans (below_of_grown (setN_grown [.int .i64 0, .int .i64 0, .string ⟨#[]⟩, .slice none 0 0, .slice none 0 0] 0 (grown_refl w1 (some w.heap.size))) (Nat.le_refl _) HB1.out.size))
  go_upto_region 4 with fail
  generalize hw2 : w1.alloc _ = w2
  have hb2 : Below w1.heap.size w1 w2 := by rw [← hw2]; exact (Below.refl _ _).alloc (Nat.le_refl _) _
  have HR := hide (show RdK w2 w1.heap.size s 0 (bl s) false from ⟨0, by rw [← hw2]; exact Row.new w1 _ _, by omega, by omega, fun _ => by omega, rfl⟩)
  have HZ2 := hide (HZ.out.below hb2 hz1)
  have HB2 := hide (HB1.out.trans (hb2.mono HB1.out.size))
  have HK := hide (treeRdS_any 6 s (bl s) false w1.heap.size 1 w2 (by omega) (by omega) HR.out)
  have hr2 := HR.out.lt
  clear hw2 hb2 HR
  go_wp2_with fail
  refine HK.out.mono ?_
  rintro e w3 ⟨k, us, fq, l3, b3, rfl, ho3, hn3, hr3, hg3, hp3, ht3, -⟩
  have HZ3 := hide (HZ2.out.grown hg3 (fun e => by injection e with e; omega))
  have HB3 := hide (HB2.out.trans (below_of_grown hg3 (by omega) HB2.out.size))
  have HT3 := hide ht3
  have hkb : k.bulk ≤ 50000 := by have := hp3.2.1; rw [bl_len] at this; omega
  obtain ⟨B1, d1, B2, d2, f1, f2, rfl, k0, k1, k2, k3, k4, efq⟩ := ho3.oTree
  obtain ⟨n, hrow, hsz, hn6, hnb, hl3⟩ := hr3
  have HO3 := hide ho3
  have HN3 := hide (hn3.mono (show w.heap.size + 1 ≤ w2.heap.size from by omega))
  have HRow := hide hrow
  have HL3 := hide hl3
  have HNB := hide hnb
  go_upto_region 5 with fail
  generalize hw4 : w3.alloc _ = w4
  have hb4 : Below w3.heap.size w3 w4 := by rw [← hw4]; exact (Below.refl _ _).alloc (Nat.le_refl _) _
  have HBox := hide (show Row w4 w3.heap.size 26 [.int .i64 k.sort, .int .i64 k.num, .string k.text, .slice B1 k.names.length d1, .slice B2 k.kids.length d2] from by rw [← hw4]; exact Row.new w3 _ _)
  have HO4 := hide (HO3.out.below hb4 HN3.out.lt)
  have HN4 := hide (HN3.out.below hb4 HN3.out.lt)
  have HRow4 := hide (HRow.out.below hb4 HRow.out.lt)
  have HZ4 := hide (HZ3.out.below hb4 HZ3.out.lt)
  have HB4 := hide (HB3.out.trans (hb4.mono HB3.out.size))
  have r1 := HRow4.out.cell 1
  have r2 := HRow4.out.cell 2
  have rl := HRow4.out.lt
  have q0 := HBox.out.cell 0
  have q1 := HBox.out.cell 1
  have q2 := HBox.out.cell 2
  have q3 := HBox.out.cell 3
  have q4 := HBox.out.cell 4
  have ql := HBox.out.lt
  have z0 := HZ4.out.cell 0
  have z1 := HZ4.out.cell 1
  have z2 := HZ4.out.cell 2
  have z3 := HZ4.out.cell 3
  have z4 := HZ4.out.cell 4
  have y0 := HZ4.out.frozen 0
  have y1 := HZ4.out.frozen 1
  have y2 := HZ4.out.frozen 2
  have y3 := HZ4.out.frozen 3
  have y4 := HZ4.out.frozen 4
  have lz := HZ4.out.lt
  have HNONE := hide (fun (W : World) (hrow : Row W w.heap.size 26 [.int .i64 0, .int .i64 0, .string ⟨#[]⟩, .slice none 0 0, .slice none 0 0]) (hb : Below w.heap.size w W) (h : readT s = none) => trr_none (w := w) (W := putN W w.heap.size 0 [.int .i64 0, .int .i64 0, .string ⟨#[]⟩, .slice none 0 0, .slice none 0 0]) h (hb.trans (below_of_grown (setN_grown _ 0 (grown_refl W (some w.heap.size))) (Nat.le_refl _) hb.size)))
  clear hw4 hb4 ho3 hn3 hrow hl3 hnb hp3 ht3 hg3 HZ3 HB3 HO3 HN3 HRow HK k0 k1 k2 k3 k4 efq
  by_cases hbad : b3 = true
  · subst hbad
    have HNO := hide (readT_no HT3.out (fun h => by cases h.1))
    go_wp2
    refine bodyPost_ret (ret_row_tmp rfl _ _ w.heap.size 26 [.int .i64 0, .int .i64 0, .string ⟨#[]⟩, .slice none 0 0, .slice none 0 0] (HZ4.out.setAll [.int .i64 0, .int .i64 0, .string ⟨#[]⟩, .slice none 0 0, .slice none 0 0] rfl) _ _ rfl rfl Tryz.underlying26 rfl (by kernel_rfl)) rfl ?_
    exact HNONE.out _ HZ4.out HB4.out HNO.out
  obtain rfl : b3 = false := by simpa using hbad
  have hns := HNB.out rfl
  clear hbad HNB
  by_cases hend : n = s.size
  rotate_left
  · have hni : ¬ ((n : Int) = (s.size : Int)) := by omega
    have HNO := hide (readT_no HT3.out (fun h => by
      have h2 := congrArg List.length (HL3.out.symm.trans h.2.1)
      rw [List.length_drop, bl_len] at h2
      simp at h2
      omega))
    clear hend
    go_wp2
    refine bodyPost_ret (ret_row_tmp rfl _ _ w.heap.size 26 [.int .i64 0, .int .i64 0, .string ⟨#[]⟩, .slice none 0 0, .slice none 0 0] (HZ4.out.setAll [.int .i64 0, .int .i64 0, .string ⟨#[]⟩, .slice none 0 0, .slice none 0 0] rfl) _ _ rfl rfl Tryz.underlying26 rfl (by kernel_rfl)) rfl ?_
    exact HNONE.out _ HZ4.out HB4.out HNO.out
  subst hend
  have HL0 := hide (show l3 = [] from by rw [HL3.out]; exact drop_none s _ (Nat.le_refl _))
  have HKO := hide (specTreeOk_any k _ fq w4 HO4.out HN4.out.lt (by omega))
  go_wp2_with fail
  refine HKO.out.mono ?_
  rintro e w5 ⟨rfl, hb5⟩
  have HB5 := hide (HB4.out.trans (hb5.mono HB4.out.size))
  have HZ5 := hide (HZ4.out.below hb5 HZ4.out.lt)
  have HBox5 := hide (HBox.out.below hb5 HBox.out.lt)
  have HO5 := hide (HO4.out.below hb5 HN4.out.lt)
  have HN5 := hide (HN4.out.below hb5 HN4.out.lt)
  clear r1 r2 rl q0 q1 q2 q3 q4 ql z0 z1 z2 z3 z4 y0 y1 y2 y3 y4 lz HKO HB4 HZ4 HO4 HN4 HBox HRow4 hb5
  have q0 := HBox5.out.cell 0
  have q1 := HBox5.out.cell 1
  have q2 := HBox5.out.cell 2
  have q3 := HBox5.out.cell 3
  have q4 := HBox5.out.cell 4
  have ql := HBox5.out.lt
  have z0 := HZ5.out.cell 0
  have z1 := HZ5.out.cell 1
  have z2 := HZ5.out.cell 2
  have z3 := HZ5.out.cell 3
  have z4 := HZ5.out.cell 4
  have y0 := HZ5.out.frozen 0
  have y1 := HZ5.out.frozen 1
  have y2 := HZ5.out.frozen 2
  have y3 := HZ5.out.frozen 3
  have y4 := HZ5.out.frozen 4
  have lz := HZ5.out.lt
  by_cases hok : k.ok
  rotate_left
  · have HNO := hide (readT_no HT3.out (fun h => hok h.2.2.1))
    rw [tb_false hok]
    clear hok
    go_wp2
    refine bodyPost_ret (ret_row_tmp rfl _ _ w.heap.size 26 [.int .i64 0, .int .i64 0, .string ⟨#[]⟩, .slice none 0 0, .slice none 0 0] (HZ5.out.setAll [.int .i64 0, .int .i64 0, .string ⟨#[]⟩, .slice none 0 0, .slice none 0 0] rfl) _ _ rfl rfl Tryz.underlying26 rfl (by kernel_rfl)) rfl ?_
    exact HNONE.out _ HZ5.out HB5.out HNO.out
  rw [tb_true hok]
  have HOK := hide hok
  have HTX := hide (textTree_any k _ fq 1 w5 HO5.out HN5.out.lt (by omega) hok.1 (by have := hok.2; omega))
  clear hok
  go_wp2_with fail
  refine HTX.out.mono ?_
  rintro e w6 ⟨rfl, hb6⟩
  have HB6 := hide (HB5.out.trans (hb6.mono HB5.out.size))
  have HZ6 := hide (HZ5.out.below hb6 HZ5.out.lt)
  have HBox6 := hide (HBox5.out.below hb6 HBox5.out.lt)
  have HO6 := hide (HO5.out.below hb6 HN5.out.lt)
  have HN6 := hide (HN5.out.below hb6 HN5.out.lt)
  clear q0 q1 q2 q3 q4 ql z0 z1 z2 z3 z4 y0 y1 y2 y3 y4 lz HTX HB5 HZ5 HO5 HN5 HBox5 hb6
  have q0 := HBox6.out.cell 0
  have q1 := HBox6.out.cell 1
  have q2 := HBox6.out.cell 2
  have q3 := HBox6.out.cell 3
  have q4 := HBox6.out.cell 4
  have ql := HBox6.out.lt
  have z0 := HZ6.out.cell 0
  have z1 := HZ6.out.cell 1
  have z2 := HZ6.out.cell 2
  have z3 := HZ6.out.cell 3
  have z4 := HZ6.out.cell 4
  have y0 := HZ6.out.frozen 0
  have y1 := HZ6.out.frozen 1
  have y2 := HZ6.out.frozen 2
  have y3 := HZ6.out.frozen 3
  have y4 := HZ6.out.frozen 4
  have lz := HZ6.out.lt
  by_cases htx : k.wr = s
  rotate_left
  · have HNO := hide (readT_no HT3.out (fun h => htx h.2.2.2))
    obtain ⟨e1, e2⟩ := ne_lists (fun h => htx (bl_inj h))
    clear htx
    go_wp2
    refine bodyPost_ret (ret_row_tmp rfl _ _ w.heap.size 26 [.int .i64 0, .int .i64 0, .string ⟨#[]⟩, .slice none 0 0, .slice none 0 0] (HZ6.out.setAll [.int .i64 0, .int .i64 0, .string ⟨#[]⟩, .slice none 0 0, .slice none 0 0] rfl) _ _ rfl rfl Tryz.underlying26 rfl (by kernel_rfl)) rfl ?_
    exact HNONE.out _ HZ6.out HB6.out HNO.out
  have HYES := hide (readT_yes HT3.out HOK.out htx)
  obtain ⟨e1, e2⟩ := eq_lists (a := k.wr) (b := s) (by rw [htx])
  clear htx
  go_wp2
  refine bodyPost_ret (ret_row_tmp rfl _ _ w.heap.size 26 [.int .i64 k.sort, .int .i64 k.num, .string k.text, .slice B1 k.names.length d1, .slice B2 k.kids.length d2] (HZ6.out.setAll [.int .i64 k.sort, .int .i64 k.num, .string k.text, .slice B1 k.names.length d1, .slice B2 k.kids.length d2] rfl) _ _ rfl rfl Tryz.underlying26 rfl (by kernel_rfl)) rfl ?_
  have hgr := setN_grown [.int .i64 k.sort, .int .i64 k.num, .string k.text, .slice B1 k.names.length d1, .slice B2 k.kids.length d2] 0 (grown_refl w6 (some w.heap.size))
  have hno : w.heap.size ∉ fq := HN6.out.out (by omega)
  exact trr_some HYES.out (HO6.out.grown hgr HN6.out.lt hno) ((HN6.out.grown hgr (fun b e => by injection e with e; subst e; exact hno)).mono (by omega)) (HB6.out.trans (below_of_grown hgr (Nat.le_refl _) HB6.out.size))
end Go.Proofs.YtnaecdoeldoipaaGreatDoor
set_option linter.unusedVariables false
set_option linter.unusedSimpArgs false
namespace Go.Proofs.YtnaecdoeldoipaaGreatDoor
open Go.ChangeShapes Go.WideShapes Go.ChangeAt Go.RowKit

theorem treeJ_any (f : Nat) : TreeRdI f :=
  treeRdI_any (fun f' lv h1 h2 ih w g hl h7 hgw wr B1 n1 d1 ns us1 B2 n2 d2 ks us2 fi2 l hK hns hks => partT1_any h1 h2 ih hl h7 hgw hK hns hks) (fun f' lv h1 h2 ih w g hl h7 hgw wr B1 n1 d1 ns us1 B2 n2 d2 ks us2 fi2 l hK hns hks => partT2_any h1 h2 ih hl h7 hgw hK hns hks) f
theorem Tree.write_yes {k : Tree} (h : k.ok) : k.write = k.wr := by
  unfold Tree.write
  rw [if_pos (tb_true h)]
theorem Tree.write_no {k : Tree} (h : ¬ k.ok) : k.write = .empty := by
  unfold Tree.write
  rw [if_neg (by rw [tb_false h]; decide)]
theorem tcntS_le : ∀ (l : List Tree), (∀ x ∈ l, x.cnt + 1 ≤ 4 * x.parts) → Tree.cntS l + l.length ≤ 4 * Tree.partsS l
  | [], _ => Nat.le_refl _
  | x :: r, h => by
    have h1 := h x (by simp)
    have h2 := tcntS_le r (fun y hy => h y (by simp [hy]))
    simp only [Tree.cntS, Tree.partsS, List.length_cons]
    omega
theorem Tree.names_le {k : Tree} (h : k.shape) : k.names.length ≤ k.kids.length := by
  rcases h with h | h | h | h | h | h
  · have := h.2.2.2.1; omega
  · have := h.2.2.2.1; omega
  · have := h.2.2.2.1; omega
  · have hn : k.names.length = 0 := by simp_all
    omega
  · have := h.2.2.2.2; omega
  · have hn : k.names.length = 0 := by simp_all
    omega
theorem tcnt_le (k : Tree) : ∀ lv, k.good lv → k.cnt + 1 ≤ 4 * k.parts := by
  refine Tree.ind (P := fun k => ∀ lv, k.good lv → k.cnt + 1 ≤ 4 * k.parts) (fun k ih => ?_) k
  intro lv h
  have hg := (Tree.good_iff _ _).1 h
  have hp := k.parts_eq
  have h1 := tcntS_le k.kids (fun x hx => ih x hx (lv + 1) (Tree.goodS_mem _ _ hg.2.2 x hx))
  have hn := Tree.names_le hg.2.1
  have e := k.cnt_eq
  omega
theorem treeRead_cnt (s : ByteArray) : (treeRead s).cntTop ≤ 480 := by
  unfold treeRead
  cases h : readT s with
  | none => decide
  | some k =>
    obtain ⟨h1, _⟩ := readT_some h
    have h2 := tcnt_le k 1 h1.1
    have h3 := h1.2
    have e := k.cnt_eq
    show k.cntTop ≤ 480
    rw [Tree.cntTop_eq]
    omega
set_option maxRecDepth 100000 in
set_option maxHeartbeats 2000000 in
theorem implTreeRead_any (s : ByteArray) (w : World) (hs : s.size ≤ maxLen) (hl : Lay w) (h7 : 5 < w.heap.size) :
    Calls Tryz.prog 15 #[.string s] w (TreeReadRet s w) := by
  unfold maxLen at hs
  have HL0 := hide hl
  have H7 := hide h7
  clear hl
  go_enter Tryz.func15, Tryz.ntmps15
  go_upto_region 1 with fail
  generalize hw1 : w.alloc _ = w1
  have hb1 : Below w.heap.size w w1 := by rw [← hw1]; exact (Below.refl _ _).alloc (Nat.le_refl _) _
  have HZ := hide (show Row w1 w.heap.size 26 [.int .i64 0, .int .i64 0, .string ⟨#[]⟩, .slice none 0 0, .slice none 0 0] from by rw [← hw1]; exact Row.new w _ _)
  have hz1 := HZ.out.lt
  have HB1 := hide hb1
  clear hw1 hb1
  by_cases hlen : (10000 : Int) < (s.size : Int)
  · have HN := hide (readT_long (s := s) (by omega))
    have z0 := HZ.out.cell 0
    have z1 := HZ.out.cell 1
    have z2 := HZ.out.cell 2
    have z3 := HZ.out.cell 3
    have z4 := HZ.out.cell 4
    have y0 := HZ.out.frozen 0
    have y1 := HZ.out.frozen 1
    have y2 := HZ.out.frozen 2
    have y3 := HZ.out.frozen 3
    have y4 := HZ.out.frozen 4
    go_wp2
    refine bodyPost_ret (ret_row_tmp rfl _ _ w.heap.size 26 [.int .i64 0, .int .i64 0, .string ⟨#[]⟩, .slice none 0 0, .slice none 0 0] (HZ.out.setAll [.int .i64 0, .int .i64 0, .string ⟨#[]⟩, .slice none 0 0, .slice none 0 0] rfl) _ _ rfl rfl Tryz.underlying26 rfl (by kernel_rfl)) rfl ?_
    exact trr_none HN.out (HB1.out.trans (below_of_grown (setN_grown [.int .i64 0, .int .i64 0, .string ⟨#[]⟩, .slice none 0 0, .slice none 0 0] 0 (grown_refl w1 (some w.heap.size))) (Nat.le_refl _) HB1.out.size))
  go_upto_region 4 with fail
  generalize hw2 : w1.alloc _ = w2
  have hb2 : Below w1.heap.size w1 w2 := by rw [← hw2]; exact (Below.refl _ _).alloc (Nat.le_refl _) _
  have HR := hide (show RdJ w2 w1.heap.size (bl s) false from ⟨s, by rw [← hw2]; exact Row.new w1 _ _, by omega, rfl⟩)
  have HZ2 := hide (HZ.out.below hb2 hz1)
  have HB2 := hide (HB1.out.trans (hb2.mono HB1.out.size))
  have HK := hide (treeJ_any 6 (bl s) false w1.heap.size 1 w2 (by omega) (by omega) (HL0.out.low HB2.out H7.out) (Nat.lt_of_lt_of_le H7.out HB1.out.size) HR.out)
  have hr2 := HR.out.lt
  clear hw2 hb2 HR
  go_wp2_with fail
  refine HK.out.mono ?_
  rintro e w3 ⟨k, us, fq, l3, b3, rfl, ho3, hn3, hr3, hg3, hp3, ht3, -⟩
  have HZ3 := hide (HZ2.out.grown hg3 (fun e => by injection e with e; omega))
  have HB3 := hide (HB2.out.trans (below_of_grown hg3 (by omega) HB2.out.size))
  have HT3 := hide ht3
  have hkb : k.bulk ≤ 50000 := by have := hp3.2.1; rw [bl_len] at this; omega
  obtain ⟨B1, d1, B2, d2, f1, f2, rfl, k0, k1, k2, k3, k4, efq⟩ := ho3.oTree
  obtain ⟨rest, hrow, hsz, hl3⟩ := hr3
  have HO3 := hide ho3
  have HN3 := hide (hn3.mono (show w.heap.size + 1 ≤ w2.heap.size from by omega))
  have HRow := hide hrow
  have HL3 := hide hl3
  have HPD := hide hp3
  go_upto_region 5 with fail
  generalize hw4 : w3.alloc _ = w4
  have hb4 : Below w3.heap.size w3 w4 := by rw [← hw4]; exact (Below.refl _ _).alloc (Nat.le_refl _) _
  have HBox := hide (show Row w4 w3.heap.size 26 [.int .i64 k.sort, .int .i64 k.num, .string k.text, .slice B1 k.names.length d1, .slice B2 k.kids.length d2] from by rw [← hw4]; exact Row.new w3 _ _)
  have HO4 := hide (HO3.out.below hb4 HN3.out.lt)
  have HN4 := hide (HN3.out.below hb4 HN3.out.lt)
  have HRow4 := hide (HRow.out.below hb4 HRow.out.lt)
  have HZ4 := hide (HZ3.out.below hb4 HZ3.out.lt)
  have HB4 := hide (HB3.out.trans (hb4.mono HB3.out.size))
  have HLY4 := hide (HL0.out.low HB4.out H7.out)
  have r1 := HRow4.out.cell 1
  have r2 := HRow4.out.cell 0
  have rl := HRow4.out.lt
  have q0 := HBox.out.cell 0
  have q1 := HBox.out.cell 1
  have q2 := HBox.out.cell 2
  have q3 := HBox.out.cell 3
  have q4 := HBox.out.cell 4
  have ql := HBox.out.lt
  have z0 := HZ4.out.cell 0
  have z1 := HZ4.out.cell 1
  have z2 := HZ4.out.cell 2
  have z3 := HZ4.out.cell 3
  have z4 := HZ4.out.cell 4
  have y0 := HZ4.out.frozen 0
  have y1 := HZ4.out.frozen 1
  have y2 := HZ4.out.frozen 2
  have y3 := HZ4.out.frozen 3
  have y4 := HZ4.out.frozen 4
  have lz := HZ4.out.lt
  have HNONE := hide (fun (W : World) (hrow : Row W w.heap.size 26 [.int .i64 0, .int .i64 0, .string ⟨#[]⟩, .slice none 0 0, .slice none 0 0]) (hb : Below w.heap.size w W) (h : readT s = none) => trr_none (w := w) (W := putN W w.heap.size 0 [.int .i64 0, .int .i64 0, .string ⟨#[]⟩, .slice none 0 0, .slice none 0 0]) h (hb.trans (below_of_grown (setN_grown _ 0 (grown_refl W (some w.heap.size))) (Nat.le_refl _) hb.size)))
  clear hw4 hb4 ho3 hn3 hrow hl3 hp3 ht3 hg3 HZ3 HB3 HO3 HN3 HRow HK k0 k1 k2 k3 k4 efq
  by_cases hbad : b3 = true
  · subst hbad
    have HNO := hide (readT_no HT3.out (fun h => by cases h.1))
    go_wp2
    refine bodyPost_ret (ret_row_tmp rfl _ _ w.heap.size 26 [.int .i64 0, .int .i64 0, .string ⟨#[]⟩, .slice none 0 0, .slice none 0 0] (HZ4.out.setAll [.int .i64 0, .int .i64 0, .string ⟨#[]⟩, .slice none 0 0, .slice none 0 0] rfl) _ _ rfl rfl Tryz.underlying26 rfl (by kernel_rfl)) rfl ?_
    exact HNONE.out _ HZ4.out HB4.out HNO.out
  obtain rfl : b3 = false := by simpa using hbad
  clear hbad
  have HNE := hide (show 0 < s.size from by have h := (HPD.out.2.2 rfl).1; rw [bl_len] at h; omega)
  by_cases hend : bl rest = []
  rotate_left
  · have HNO := hide (readT_no HT3.out (fun h => hend (HL3.out.symm.trans h.2.1)))
    obtain ⟨e1, e2⟩ := ne_lists (a := rest) (b := ⟨#[]⟩) hend
    have e3 : ¬ (rest.toList = []) := fun e => e1 (e.trans (by simp))
    have e4 : (rest.toList == []) = false := by simpa using e3
    clear hend
    go_wp2
    refine bodyPost_ret (ret_row_tmp rfl _ _ w.heap.size 26 [.int .i64 0, .int .i64 0, .string ⟨#[]⟩, .slice none 0 0, .slice none 0 0] (HZ4.out.setAll [.int .i64 0, .int .i64 0, .string ⟨#[]⟩, .slice none 0 0, .slice none 0 0] rfl) _ _ rfl rfl Tryz.underlying26 rfl (by kernel_rfl)) rfl ?_
    exact HNONE.out _ HZ4.out HB4.out HNO.out
  have e5 : rest = ByteArray.empty := bl_inj hend
  have HL0 := hide (show l3 = [] from by rw [HL3.out]; exact hend)
  clear hend
  subst e5
  have HKW := hide (implTreeWrite_any k _ fq w4 HO4.out HN4.out.lt (by omega) HLY4.out.tab)
  go_wp2_with fail
  refine HKW.out.mono ?_
  rintro e w6 ⟨rfl, hb6⟩
  have HB6 := hide (HB4.out.trans (hb6.mono HB4.out.size))
  have HZ6 := hide (HZ4.out.below hb6 HZ4.out.lt)
  have HBox6 := hide (HBox.out.below hb6 HBox.out.lt)
  have HO6 := hide (HO4.out.below hb6 HN4.out.lt)
  have HN6 := hide (HN4.out.below hb6 HN4.out.lt)
  clear r1 r2 rl q0 q1 q2 q3 q4 ql z0 z1 z2 z3 z4 y0 y1 y2 y3 y4 lz HKW HB4 HZ4 HO4 HN4 HBox HRow4 hb6
  have q0 := HBox6.out.cell 0
  have q1 := HBox6.out.cell 1
  have q2 := HBox6.out.cell 2
  have q3 := HBox6.out.cell 3
  have q4 := HBox6.out.cell 4
  have ql := HBox6.out.lt
  have z0 := HZ6.out.cell 0
  have z1 := HZ6.out.cell 1
  have z2 := HZ6.out.cell 2
  have z3 := HZ6.out.cell 3
  have z4 := HZ6.out.cell 4
  have y0 := HZ6.out.frozen 0
  have y1 := HZ6.out.frozen 1
  have y2 := HZ6.out.frozen 2
  have y3 := HZ6.out.frozen 3
  have y4 := HZ6.out.frozen 4
  have lz := HZ6.out.lt
  by_cases htx : k.ok ∧ k.wr = s
  rotate_left
  · have HNO := hide (readT_no HT3.out (fun h => htx ⟨h.2.2.1, h.2.2.2⟩))
    obtain ⟨e1, e2⟩ := ne_lists (a := k.write) (b := s) (fun h => by
      have h2 := bl_inj h
      by_cases hk : k.ok
      · rw [Tree.write_yes hk] at h2
        exact htx ⟨hk, h2⟩
      · rw [Tree.write_no hk] at h2
        have h3 := HNE.out
        rw [← h2] at h3
        exact absurd h3 (by decide))
    clear htx
    go_wp2
    refine bodyPost_ret (ret_row_tmp rfl _ _ w.heap.size 26 [.int .i64 0, .int .i64 0, .string ⟨#[]⟩, .slice none 0 0, .slice none 0 0] (HZ6.out.setAll [.int .i64 0, .int .i64 0, .string ⟨#[]⟩, .slice none 0 0, .slice none 0 0] rfl) _ _ rfl rfl Tryz.underlying26 rfl (by kernel_rfl)) rfl ?_
    exact HNONE.out _ HZ6.out HB6.out HNO.out
  have HYES := hide (readT_yes HT3.out htx.1 htx.2)
  obtain ⟨e1, e2⟩ := eq_lists (a := k.write) (b := s) (by rw [Tree.write_yes htx.1, htx.2])
  clear htx
  go_wp2
  refine bodyPost_ret (ret_row_tmp rfl _ _ w.heap.size 26 [.int .i64 k.sort, .int .i64 k.num, .string k.text, .slice B1 k.names.length d1, .slice B2 k.kids.length d2] (HZ6.out.setAll [.int .i64 k.sort, .int .i64 k.num, .string k.text, .slice B1 k.names.length d1, .slice B2 k.kids.length d2] rfl) _ _ rfl rfl Tryz.underlying26 rfl (by kernel_rfl)) rfl ?_
  have hgr := setN_grown [.int .i64 k.sort, .int .i64 k.num, .string k.text, .slice B1 k.names.length d1, .slice B2 k.kids.length d2] 0 (grown_refl w6 (some w.heap.size))
  have hno : w.heap.size ∉ fq := HN6.out.out (by omega)
  exact trr_some HYES.out (HO6.out.grown hgr HN6.out.lt hno) ((HN6.out.grown hgr (fun b e => by injection e with e; subst e; exact hno)).mono (by omega)) (HB6.out.trans (below_of_grown hgr (Nat.le_refl _) HB6.out.size))
end Go.Proofs.YtnaecdoeldoipaaGreatDoor
set_option linter.unusedVariables false
set_option linter.unusedSimpArgs false
namespace Go.Proofs.YtnaecdoeldoipaaGreatDoor
open Go.ChangeShapes Go.WideShapes Go.ChangeAt Go.RowKit

def Event.ok (x : Event) : Prop := NameOk x.type_ ∧ (1 ≤ x.version ∧ x.version ≤ 12) ∧ x.body.sort = 5 ∧ x.body.ok
theorem OwC.oBody {w : World} {x : Event} {A1 A2 : Option Addr} {c1 c2 : Nat} {fp : List Nat}
    (h : OwC w x.cells [.string x.type_, .int .i64 x.version, .int .i64 x.body.sort, .int .i64 x.body.num, .string x.body.text, .slice A1 x.body.names.length c1, .slice A2 x.body.kids.length c2] fp) :
    OwC w x.body.cells [.int .i64 x.body.sort, .int .i64 x.body.num, .string x.body.text, .slice A1 x.body.names.length c1, .slice A2 x.body.kids.length c2] fp := by
  obtain ⟨_, _, _, _, _, _, e, _, _, w2, w3, w4, o1, o2, rfl⟩ := h.oEvent
  simp only [List.cons.injEq, Value.slice.injEq, and_true, true_and] at e
  obtain ⟨⟨rfl, rfl⟩, rfl, rfl⟩ := e
  exact OwC.mTree w2 w3 w4 o1 o2
theorem Event.body_bulk (x : Event) : x.body.bulk ≤ x.bulk := by rw [x.bulk_eq]; omega

set_option maxRecDepth 100000 in
theorem implEventOk_any (x : Event) (us : List Value) (fp : List Nat) (w : World) (ho : OwC w x.cells us fp) (hf : Lt fp w.heap.size) (hbk : x.bulk ≤ 1048576) :
    Calls Tryz.prog 34 #[.agg us.toArray] w fun e w' => e = .returned (.bool (tb x.ok)) ∧ Below w.heap.size w w' := by
  have ho' := ho
  obtain ⟨A1, c1, A2, c2, f1, f2, rfl, w0, w1, w2, w3, w4, o1, o2, rfl⟩ := ho.oEvent
  have hw1 : Below w.heap.size w (w.alloc (.cells #[.string x.type_, .int .i64 x.version, .int .i64 x.body.sort, .int .i64 x.body.num, .string x.body.text, .slice A1 x.body.names.length c1, .slice A2 x.body.kids.length c2] 46)) := (Below.refl _ _).alloc (Nat.le_refl _) _
  have HO := hide (ho'.oBody.below hw1 hf)
  have hf2 := (hf.mono hw1.size)
  have BB := hide hw1
  clear ho ho' o1 o2 hw1
  have hb2 : x.body.bulk ≤ 1048576 := Nat.le_trans x.body_bulk hbk
  by_cases hn : NameOk x.type_
  · by_cases hv : 1 ≤ x.version ∧ x.version ≤ 12
    · by_cases hs : x.body.sort = 5
      · have HE := hide (show x.ok ↔ x.body.ok from ⟨fun h => h.2.2.2, fun h => ⟨hn, hv, hs, h⟩⟩)
        have HN := hide (tb_true hn)
        have HV := hide (tb_true hv)
        have hb : (x.body.sort == 5) = true := by simp [hs]
        clear hn hv hs
        go_enter Tryz.func34, Tryz.ntmps34
        go_wp2_with fail
        refine (isName_any _ _ w0).mono ?_
        rintro e w' ⟨rfl, rfl⟩
        rw [HN.out]
        go_wp2_with fail
        refine (inRange_any _ _ _ _).mono ?_
        rintro e w' ⟨rfl, rfl⟩
        rw [HV.out]
        go_wp2_with fail
        refine (implTreeOk_any x.body _ _ _ HO.out hf2 hb2).mono ?_
        rintro e w3 ⟨rfl, hb3⟩
        have hk : tb x.ok = tb x.body.ok := congrArg tb (propext HE.out)
        go_wp2
        go_ret
        exact ⟨ret_bool hk.symm, BB.out.trans (hb3.mono BB.out.size)⟩
      · have HT := hide (tb_false (fun h : x.ok => hs h.2.2.1))
        have HN := hide (tb_true hn)
        have HV := hide (tb_true hv)
        have hb : (x.body.sort == 5) = false := by simp [hs]
        clear hn hv hs
        go_enter Tryz.func34, Tryz.ntmps34
        go_wp2_with fail
        refine (isName_any _ _ w0).mono ?_
        rintro e w' ⟨rfl, rfl⟩
        rw [HN.out]
        go_wp2_with fail
        refine (inRange_any _ _ _ _).mono ?_
        rintro e w' ⟨rfl, rfl⟩
        rw [HV.out]
        go_wp2
        go_ret
        exact ⟨ret_bool HT.out.symm, BB.out⟩
    · have HT := hide (tb_false (fun h : x.ok => hv h.2.1))
      have HN := hide (tb_true hn)
      have HV := hide (tb_false hv)
      clear hn hv
      go_enter Tryz.func34, Tryz.ntmps34
      go_wp2_with fail
      refine (isName_any _ _ w0).mono ?_
      rintro e w' ⟨rfl, rfl⟩
      rw [HN.out]
      go_wp2_with fail
      refine (inRange_any _ _ _ _).mono ?_
      rintro e w' ⟨rfl, rfl⟩
      rw [HV.out]
      go_wp2
      go_ret
      exact ⟨ret_bool HT.out.symm, BB.out⟩
  · have HT := hide (tb_false (fun h : x.ok => hn h.1))
    have HN := hide (tb_false hn)
    clear hn
    go_enter Tryz.func34, Tryz.ntmps34
    go_wp2_with fail
    refine (isName_any _ _ w0).mono ?_
    rintro e w' ⟨rfl, rfl⟩
    rw [HN.out]
    go_wp2
    go_ret
    exact ⟨ret_bool HT.out.symm, BB.out⟩

set_option maxRecDepth 100000 in
theorem specEventOk_any (x : Event) (us : List Value) (fp : List Nat) (w : World) (ho : OwC w x.cells us fp) (hf : Lt fp w.heap.size) (hbk : x.bulk ≤ 1048576) :
    Calls Tryz.prog 30 #[.agg us.toArray] w fun e w' => e = .returned (.bool (tb x.ok)) ∧ Below w.heap.size w w' := by
  have ho' := ho
  obtain ⟨A1, c1, A2, c2, f1, f2, rfl, w0, w1, w2, w3, w4, o1, o2, rfl⟩ := ho.oEvent
  have hw1 : Below w.heap.size w (w.alloc (.cells #[.string x.type_, .int .i64 x.version, .int .i64 x.body.sort, .int .i64 x.body.num, .string x.body.text, .slice A1 x.body.names.length c1, .slice A2 x.body.kids.length c2] 46)) := (Below.refl _ _).alloc (Nat.le_refl _) _
  have HO := hide (ho'.oBody.below hw1 hf)
  have hf2 := (hf.mono hw1.size)
  have BB := hide hw1
  clear ho ho' o1 o2 hw1
  have hb2 : x.body.bulk ≤ 1048576 := Nat.le_trans x.body_bulk hbk
  by_cases hn : NameOk x.type_
  · by_cases hv : 1 ≤ x.version ∧ x.version ≤ 12
    · by_cases hs : x.body.sort = 5
      · have HE := hide (show x.ok ↔ x.body.ok from ⟨fun h => h.2.2.2, fun h => ⟨hn, hv, hs, h⟩⟩)
        have HN := hide (tb_true hn)
        have HV := hide (tb_true hv)
        have hb : (x.body.sort == 5) = true := by simp [hs]
        clear hn hv hs
        go_enter Tryz.func30, Tryz.ntmps30
        go_wp2_with fail
        refine (l6NameOk_any _ _ w0).mono ?_
        rintro e w' ⟨rfl, rfl⟩
        rw [HN.out]
        go_wp2_with fail
        refine (l6In_any _ _ _ _).mono ?_
        rintro e w' ⟨rfl, rfl⟩
        rw [HV.out]
        go_wp2_with fail
        refine (specTreeOk_any x.body _ _ _ HO.out hf2 hb2).mono ?_
        rintro e w3 ⟨rfl, hb3⟩
        have hk : tb x.ok = tb x.body.ok := congrArg tb (propext HE.out)
        go_wp2
        go_ret
        exact ⟨ret_bool hk.symm, BB.out.trans (hb3.mono BB.out.size)⟩
      · have HT := hide (tb_false (fun h : x.ok => hs h.2.2.1))
        have HN := hide (tb_true hn)
        have HV := hide (tb_true hv)
        have hb : (x.body.sort == 5) = false := by simp [hs]
        clear hn hv hs
        go_enter Tryz.func30, Tryz.ntmps30
        go_wp2_with fail
        refine (l6NameOk_any _ _ w0).mono ?_
        rintro e w' ⟨rfl, rfl⟩
        rw [HN.out]
        go_wp2_with fail
        refine (l6In_any _ _ _ _).mono ?_
        rintro e w' ⟨rfl, rfl⟩
        rw [HV.out]
        go_wp2
        go_ret
        exact ⟨ret_bool HT.out.symm, BB.out⟩
    · have HT := hide (tb_false (fun h : x.ok => hv h.2.1))
      have HN := hide (tb_true hn)
      have HV := hide (tb_false hv)
      clear hn hv
      go_enter Tryz.func30, Tryz.ntmps30
      go_wp2_with fail
      refine (l6NameOk_any _ _ w0).mono ?_
      rintro e w' ⟨rfl, rfl⟩
      rw [HN.out]
      go_wp2_with fail
      refine (l6In_any _ _ _ _).mono ?_
      rintro e w' ⟨rfl, rfl⟩
      rw [HV.out]
      go_wp2
      go_ret
      exact ⟨ret_bool HT.out.symm, BB.out⟩
  · have HT := hide (tb_false (fun h : x.ok => hn h.1))
    have HN := hide (tb_false hn)
    clear hn
    go_enter Tryz.func30, Tryz.ntmps30
    go_wp2_with fail
    refine (l6NameOk_any _ _ w0).mono ?_
    rintro e w' ⟨rfl, rfl⟩
    rw [HN.out]
    go_wp2
    go_ret
    exact ⟨ret_bool HT.out.symm, BB.out⟩
end Go.Proofs.YtnaecdoeldoipaaGreatDoor
set_option linter.unusedVariables false
set_option linter.unusedSimpArgs false
namespace Go.Proofs.YtnaecdoeldoipaaGreatDoor
open Go.ChangeShapes Go.WideShapes Go.ChangeAt Go.RowKit

def Event.wr (x : Event) : ByteArray := x.type_ ++ ⟨#[64]⟩ ++ dec x.version ++ x.body.wr
noncomputable def Event.write (x : Event) : ByteArray := if tb x.ok = true then x.wr else .empty
set_option maxRecDepth 100000 in
set_option maxHeartbeats 4000000 in
theorem specEventWrite_any (x : Event) (us : List Value) (fp : List Nat) (w : World) (ho : OwC w x.cells us fp) (hf : Lt fp w.heap.size) (hbk : x.bulk ≤ 1048576) :
    Calls Tryz.prog 35 #[.agg us.toArray] w fun e w' => e = .returned (.string x.write) ∧ Below w.heap.size w w' := by
  have HHO := hide ho
  obtain ⟨A1, c1, A2, c2, f1, f2, rfl, w0, w1, w2, w3_, w4_, o1, o2, rfl⟩ := ho.oEvent
  have hw1 : Below w.heap.size w (w.alloc (.cells #[.string x.type_, .int .i64 x.version, .int .i64 x.body.sort, .int .i64 x.body.num, .string x.body.text, .slice A1 x.body.names.length c1, .slice A2 x.body.kids.length c2] 46)) := (Below.refl _ _).alloc (Nat.le_refl _) _
  have R1 : Row (w.alloc (.cells #[.string x.type_, .int .i64 x.version, .int .i64 x.body.sort, .int .i64 x.body.num, .string x.body.text, .slice A1 x.body.names.length c1, .slice A2 x.body.kids.length c2] 46)) w.heap.size 46 [.string x.type_, .int .i64 x.version, .int .i64 x.body.sort, .int .i64 x.body.num, .string x.body.text, .slice A1 x.body.names.length c1, .slice A2 x.body.kids.length c2] := Row.new w _ _
  have HO := hide (HHO.out.below hw1 hf)
  have HF := hide (hf.up hw1)
  have HR := hide R1
  have HB := hide hw1
  have HC := hide (specEventOk_any x _ _ _ HO.out HF.out hbk)
  have hbkk : x.body.bulk ≤ 1048576 := by have := x.bulk_eq; omega
  clear ho o1 o2 hw1 R1 HHO
  go_enter Tryz.func35, Tryz.ntmps35
  go_wp2_with fail
  refine HC.out.mono ?_
  rintro e w3 ⟨rfl, hb3⟩
  have HO3 := hide (HO.out.below hb3 HF.out)
  have HF3 := hide (HF.out.up hb3)
  have HB3 := hide (HB.out.trans (hb3.mono HB.out.size))
  have HRW := hide (HR.out.below hb3 HR.out.lt)
  clear hb3 HC HO HF HB HR
  by_cases hok : x.ok
  rotate_left
  · have HZ := hide (show x.write = .empty from by unfold Event.write; rw [if_neg (by rw [tb_false hok]; simp)])
    rw [tb_false hok]
    clear hok
    go_wp2
    go_ret
    exact ⟨ret_str HZ.out.symm, HB3.out⟩
  have HZ := hide (show x.write = x.wr from by unfold Event.write; rw [if_pos (tb_true hok)])
  rw [tb_true hok]
  have hv := hok.2.1
  have hn : x.type_.size ≤ 8 := hok.1.2.1
  have hbg := hok.2.2.2.1
  have hbp : x.body.parts ≤ 120 := by have := hok.2.2.2.2; omega
  have HBG := hide hbg
  clear hok
  have hd := dec_size x.version (by omega) (by omega)
  have hs1 := Tree.wr_size x.body 1 hbg
  have n1 : ¬ (9223372036854775807 < x.type_.size + 1) := by omega
  have n2 : ¬ (9223372036854775807 < x.type_.size + 1 + (dec x.version).size) := by omega
  have n3 : ¬ (9223372036854775807 < x.type_.size + 1 + (dec x.version).size + x.body.wr.size) := by omega
  have HSS := hide (fun (W : World) (hb : Below w3.heap.size w3 W) => show W.cell? ⟨w.heap.size, 0, none⟩ = some (.string x.type_) ∧ W.cell? ⟨w.heap.size, 1, none⟩ = some (.int .i64 x.version) ∧ W.cell? ⟨w.heap.size, 2, none⟩ = some (.int .i64 x.body.sort) ∧ W.cell? ⟨w.heap.size, 3, none⟩ = some (.int .i64 x.body.num) ∧ W.cell? ⟨w.heap.size, 4, none⟩ = some (.string x.body.text) ∧ W.cell? ⟨w.heap.size, 5, none⟩ = some (.slice A1 x.body.names.length c1) ∧ W.cell? ⟨w.heap.size, 6, none⟩ = some (.slice A2 x.body.kids.length c2) from
    ⟨(HRW.out.below hb HRW.out.lt).cell 0, (HRW.out.below hb HRW.out.lt).cell 1, (HRW.out.below hb HRW.out.lt).cell 2, (HRW.out.below hb HRW.out.lt).cell 3, (HRW.out.below hb HRW.out.lt).cell 4, (HRW.out.below hb HRW.out.lt).cell 5, (HRW.out.below hb HRW.out.lt).cell 6⟩)
  have HDC := hide (fun (W : World) (hb : Below w3.heap.size w3 W) => specDecZ_any x.version (by omega) (by omega) W)
  have HTX := hide (fun (W : World) (hb : Below w3.heap.size w3 W) => show Calls Tryz.prog 43 #[.agg ([.int .i64 x.body.sort, .int .i64 x.body.num, .string x.body.text, .slice A1 x.body.names.length c1, .slice A2 x.body.kids.length c2] : List Value).toArray] W (fun e w' => e = .returned (.string x.body.wr) ∧ Below W.heap.size W w') from textTree_any x.body _ _ 1 W (HO3.out.oBody.below hb HF3.out) (HF3.out.up hb) hbkk HBG.out hbp)
  have HE := hide (show x.wr = x.type_ ++ ⟨#[64]⟩ ++ dec x.version ++ x.body.wr from rfl)
  generalize dec x.version = d1 at *
  generalize x.body.wr = d2 at *
  clear hd hs1 hbg
  have hbr : Below w3.heap.size w3 w3.drew := below_drewN (Below.refl _ _) 1
  go_wp2_with fail
  go_region_held3 (fun W => W.cell? ⟨w.heap.size, 0, none⟩ = some (.string x.type_) ∧ W.cell? ⟨w.heap.size, 1, none⟩ = some (.int .i64 x.version) ∧ W.cell? ⟨w.heap.size, 2, none⟩ = some (.int .i64 x.body.sort) ∧ W.cell? ⟨w.heap.size, 3, none⟩ = some (.int .i64 x.body.num) ∧ W.cell? ⟨w.heap.size, 4, none⟩ = some (.string x.body.text) ∧ W.cell? ⟨w.heap.size, 5, none⟩ = some (.slice A1 x.body.names.length c1) ∧ W.cell? ⟨w.heap.size, 6, none⟩ = some (.slice A2 x.body.kids.length c2))
    (first | exact HSS.out _ hBC | exact HSS.out _ hBB | exact HSS.out _ hbr)
    (first
      | (have hM := hBB; go_at_call 43; refine (HTX.out _ hBB).mono ?_; rintro e wc ⟨rfl, hbc⟩; have hBC := hBB.trans (hbc.mono hBB.size); clear hbc)
      | (go_at_call 83; refine (HDC.out _ hbr).mono ?_; rintro e wb ⟨rfl, hbb⟩; have hBB := hbr.trans (hbb.mono hbr.size); clear hbb))
  all_goals
    go_wp2
    go_ret
    exact ⟨ret_str (by rw [HZ.out, HE.out]), HB3.out.trans (hBC.mono HB3.out.size)⟩
set_option maxRecDepth 100000 in
set_option maxHeartbeats 4000000 in
theorem eventText_any (x : Event) (us : List Value) (fp : List Nat) (w : World) (ho : OwC w x.cells us fp) (hf : Lt fp w.heap.size) (hbkk : x.body.bulk ≤ 1048576) (ht : Tab w) (hok : x.ok) :
    Calls Tryz.prog 80 #[.agg us.toArray] w fun e w' => e = .returned (.string x.wr) ∧ Below w.heap.size w w' := by
  have HHO := hide ho
  obtain ⟨A1, c1, A2, c2, f1, f2, rfl, w0, w1, w2, w3_, w4_, o1, o2, rfl⟩ := ho.oEvent
  have hw1 : Below w.heap.size w (w.alloc (.cells #[.string x.type_, .int .i64 x.version, .int .i64 x.body.sort, .int .i64 x.body.num, .string x.body.text, .slice A1 x.body.names.length c1, .slice A2 x.body.kids.length c2] 46)) := (Below.refl _ _).alloc (Nat.le_refl _) _
  have R1 : Row (w.alloc (.cells #[.string x.type_, .int .i64 x.version, .int .i64 x.body.sort, .int .i64 x.body.num, .string x.body.text, .slice A1 x.body.names.length c1, .slice A2 x.body.kids.length c2] 46)) w.heap.size 46 [.string x.type_, .int .i64 x.version, .int .i64 x.body.sort, .int .i64 x.body.num, .string x.body.text, .slice A1 x.body.names.length c1, .slice A2 x.body.kids.length c2] := Row.new w _ _
  have HO3 := hide (HHO.out.below hw1 hf)
  have HF3 := hide (hf.up hw1)
  have HRW := hide R1
  have HB3 := hide hw1
  have HT3 := hide (ht.below hw1)
  have hv := hok.2.1
  have hn : x.type_.size ≤ 8 := hok.1.2.1
  have hbg := hok.2.2.2.1
  have hbp : x.body.parts ≤ 120 := by have := hok.2.2.2.2; omega
  have HBG := hide hbg
  clear ho o1 o2 hw1 R1 HHO hok ht
  go_enter Tryz.func80, Tryz.ntmps80
  go_upto_region 1 with fail
  generalize w.alloc _ = w3 at HO3 HF3 HRW HB3 HT3 ⊢
  have hd := dec_size x.version (by omega) (by omega)
  have hs1 := Tree.wr_size x.body 1 hbg
  have n1 : ¬ (9223372036854775807 < x.type_.size + 1) := by omega
  have n2 : ¬ (9223372036854775807 < x.type_.size + 1 + (dec x.version).size) := by omega
  have n3 : ¬ (9223372036854775807 < x.type_.size + 1 + (dec x.version).size + x.body.wr.size) := by omega
  have HSS := hide (fun (W : World) (hb : Below w3.heap.size w3 W) => show W.cell? ⟨w.heap.size, 0, none⟩ = some (.string x.type_) ∧ W.cell? ⟨w.heap.size, 1, none⟩ = some (.int .i64 x.version) ∧ W.cell? ⟨w.heap.size, 2, none⟩ = some (.int .i64 x.body.sort) ∧ W.cell? ⟨w.heap.size, 3, none⟩ = some (.int .i64 x.body.num) ∧ W.cell? ⟨w.heap.size, 4, none⟩ = some (.string x.body.text) ∧ W.cell? ⟨w.heap.size, 5, none⟩ = some (.slice A1 x.body.names.length c1) ∧ W.cell? ⟨w.heap.size, 6, none⟩ = some (.slice A2 x.body.kids.length c2) from
    ⟨(HRW.out.below hb HRW.out.lt).cell 0, (HRW.out.below hb HRW.out.lt).cell 1, (HRW.out.below hb HRW.out.lt).cell 2, (HRW.out.below hb HRW.out.lt).cell 3, (HRW.out.below hb HRW.out.lt).cell 4, (HRW.out.below hb HRW.out.lt).cell 5, (HRW.out.below hb HRW.out.lt).cell 6⟩)
  have HDC := hide (fun (W : World) (hb : Below w3.heap.size w3 W) => itoa_any x.version (by omega) (by omega) W (HT3.out.below hb))
  have HTX := hide (fun (W : World) (hb : Below w3.heap.size w3 W) => show Calls Tryz.prog 45 #[.agg ([.int .i64 x.body.sort, .int .i64 x.body.num, .string x.body.text, .slice A1 x.body.names.length c1, .slice A2 x.body.kids.length c2] : List Value).toArray] W (fun e w' => e = .returned (.string x.body.wr) ∧ Below W.heap.size W w') from treeText_any x.body _ _ 1 W (HO3.out.oBody.below hb HF3.out) (HF3.out.up hb) hbkk (HT3.out.below hb) HBG.out hbp)
  have HE := hide (show x.wr = x.type_ ++ ⟨#[64]⟩ ++ dec x.version ++ x.body.wr from rfl)
  generalize dec x.version = d1 at *
  generalize x.body.wr = d2 at *
  clear hd hs1 hbg
  have hbr : Below w3.heap.size w3 w3.drew := below_drewN (Below.refl _ _) 1
  go_wp2_with fail
  go_region_held3 (fun W => W.cell? ⟨w.heap.size, 0, none⟩ = some (.string x.type_) ∧ W.cell? ⟨w.heap.size, 1, none⟩ = some (.int .i64 x.version) ∧ W.cell? ⟨w.heap.size, 2, none⟩ = some (.int .i64 x.body.sort) ∧ W.cell? ⟨w.heap.size, 3, none⟩ = some (.int .i64 x.body.num) ∧ W.cell? ⟨w.heap.size, 4, none⟩ = some (.string x.body.text) ∧ W.cell? ⟨w.heap.size, 5, none⟩ = some (.slice A1 x.body.names.length c1) ∧ W.cell? ⟨w.heap.size, 6, none⟩ = some (.slice A2 x.body.kids.length c2))
    (first | exact HSS.out _ hBC | exact HSS.out _ hBB | exact HSS.out _ hbr)
    (first
      | (have hM := hBB; go_at_call 45; refine (HTX.out _ hBB).mono ?_; rintro e wc ⟨rfl, hbc⟩; have hBC := hBB.trans (hbc.mono hBB.size); clear hbc)
      | (go_at_call 119; refine (HDC.out _ hbr).mono ?_; rintro e wb ⟨rfl, hbb⟩; have hBB := hbr.trans (hbb.mono hbr.size); clear hbb))
  all_goals
    go_wp2
    go_ret
    exact ⟨ret_str (by rw [HE.out]), HB3.out.trans (hBC.mono HB3.out.size)⟩
set_option maxRecDepth 100000 in
set_option maxHeartbeats 4000000 in
theorem implEventWrite_any (x : Event) (us : List Value) (fp : List Nat) (w : World) (ho : OwC w x.cells us fp) (hf : Lt fp w.heap.size) (hbk : x.bulk ≤ 1048576) (ht : Tab w) :
    Calls Tryz.prog 33 #[.agg us.toArray] w fun e w' => e = .returned (.string x.write) ∧ Below w.heap.size w w' := by
  have HHO := hide ho
  obtain ⟨A1, c1, A2, c2, f1, f2, rfl, w0, w1, w2, w3_, w4_, o1, o2, rfl⟩ := ho.oEvent
  have hw1 : Below w.heap.size w (w.alloc (.cells #[.string x.type_, .int .i64 x.version, .int .i64 x.body.sort, .int .i64 x.body.num, .string x.body.text, .slice A1 x.body.names.length c1, .slice A2 x.body.kids.length c2] 46)) := (Below.refl _ _).alloc (Nat.le_refl _) _
  have R1 : Row (w.alloc (.cells #[.string x.type_, .int .i64 x.version, .int .i64 x.body.sort, .int .i64 x.body.num, .string x.body.text, .slice A1 x.body.names.length c1, .slice A2 x.body.kids.length c2] 46)) w.heap.size 46 [.string x.type_, .int .i64 x.version, .int .i64 x.body.sort, .int .i64 x.body.num, .string x.body.text, .slice A1 x.body.names.length c1, .slice A2 x.body.kids.length c2] := Row.new w _ _
  have HO := hide (HHO.out.below hw1 hf)
  have HF := hide (hf.up hw1)
  have HR := hide R1
  have HB := hide hw1
  have HC := hide (implEventOk_any x _ _ _ HO.out HF.out hbk)
  have hbkk : x.body.bulk ≤ 1048576 := by have := x.bulk_eq; omega
  have HT := hide (ht.below hw1)
  clear ho o1 o2 hw1 R1 HHO
  go_enter Tryz.func33, Tryz.ntmps33
  go_wp2_with fail
  refine HC.out.mono ?_
  rintro e w3 ⟨rfl, hb3⟩
  have HO3 := hide (HO.out.below hb3 HF.out)
  have HF3 := hide (HF.out.up hb3)
  have HB3 := hide (HB.out.trans (hb3.mono HB.out.size))
  have HRW := hide (HR.out.below hb3 HR.out.lt)
  have HT3 := hide (HT.out.below hb3)
  clear hb3 HC HO HF HB HR
  by_cases hok : x.ok
  rotate_left
  · have HZ := hide (show x.write = .empty from by unfold Event.write; rw [if_neg (by rw [tb_false hok]; simp)])
    rw [tb_false hok]
    clear hok
    go_wp2
    go_ret
    exact ⟨ret_str HZ.out.symm, HB3.out⟩
  have HZ := hide (show x.write = x.wr from by unfold Event.write; rw [if_pos (tb_true hok)])
  rw [tb_true hok]
  have HP := hide (eventText_any x _ _ w3 HO3.out HF3.out hbkk HT3.out hok)
  clear hok
  have m0 := HRW.out.cell 0
  have m1 := HRW.out.cell 1
  have m2 := HRW.out.cell 2
  have m3 := HRW.out.cell 3
  have m4 := HRW.out.cell 4
  have m5 := HRW.out.cell 5
  have m6 := HRW.out.cell 6
  have ml := HRW.out.lt
  go_wp2_with fail
  refine HP.out.mono ?_
  rintro e w4 ⟨rfl, hb4⟩
  go_wp2
  go_ret
  exact ⟨ret_str HZ.out.symm, HB3.out.trans (hb4.mono HB3.out.size)⟩
end Go.Proofs.YtnaecdoeldoipaaGreatDoor
