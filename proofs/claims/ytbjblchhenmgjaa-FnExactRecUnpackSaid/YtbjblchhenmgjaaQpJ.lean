/-
  A record read back from its bytes: plain definitions. Kind as data: its cells, its size. Kind: what the laws' own helpers do: the size, a copy, equality.
-/
import Derived.Test.YtbjblchhenmgjaaQpI
import Derived.Test.YtbjblchhenmgjaaQpA
set_option linter.unusedVariables false
set_option linter.unusedSimpArgs false
namespace Go.Proofs.Ytbjblchhenmgjaa
open Go.ChangeShapes Go.WideShapes Go.ChangeAt Go.RowKit

/-- one event with its size ahead -/
noncomputable def pPart (l : List UInt8) : Option (Event × List UInt8) :=
  match pOne l with
  | none => none
  | some (a, l1) =>
    match pOne l1 with
    | none => none
    | some (b, l2) => if (a * 256 + b).toNat ≤ l2.length ∧ unpackB (l2.take (a * 256 + b).toNat) = true then some (unpackE (l2.take (a * 256 + b).toNat), l2.drop (a * 256 + b).toNat) else none
noncomputable def pParts : Nat → List Event → List UInt8 → Option (List Event × List UInt8)
  | 0, es, l => some (es, l)
  | n + 1, es, l =>
    match pPart l with
    | none => none
    | some (e, l2) => pParts n (es ++ [e]) l2
noncomputable def pRec (l : List UInt8) : Option ((ByteArray × List Event) × List UInt8) :=
  match pShort l with
  | none => none
  | some (k, l1) =>
    match pOne l1 with
    | none => none
    | some (n, l2) => (pParts n.toNat [] l2).map (fun p => ((k, p.1), p.2))
theorem pPart_back {e : Event} (h : e.ok) (hl : e.packed.length ≤ 9000) (r : List UInt8) : pPart (e.part ++ r) = some (e, r) := by
  have hp := Event.packed_yes h
  have hu := unpack_yes (l := e.packed) (x := e) ⟨h, hp.symm, hl⟩
  have h1 := u8_nat (e.packed.length / 256) (by omega)
  have h2 := u8_nat (e.packed.length % 256) (by omega)
  simp only [pPart, Event.part, List.cons_append, List.nil_append, pOne, h1, h2]
  have e1 : (((e.packed.length / 256 : Nat) : Int) * 256 + ((e.packed.length % 256 : Nat) : Int)).toNat = e.packed.length := by omega
  rw [e1, List.take_left, List.drop_left, if_pos ⟨by rw [List.length_append]; omega, hu.2⟩, hu.1]
theorem pParts_back : ∀ (l : List Event) (a : List Event) (r : List UInt8), (∀ e ∈ l, e.ok ∧ e.packed.length ≤ 9000) → pParts l.length a (l.flatMap Event.part ++ r) = some (a ++ l, r)
  | [], a, r, _ => by simp [pParts]
  | e :: l, a, r, h => by
    have he := h e (by simp)
    simp only [List.length_cons, pParts, List.flatMap_cons, List.append_assoc]
    rw [pPart_back he.1 he.2]
    simp only
    rw [pParts_back l (a ++ [e]) r (fun x hx => h x (by simp [hx]))]
    simp
theorem part_le {l : List Event} {e : Event} (h : e ∈ l) : e.packed.length ≤ (l.flatMap Event.part).length := by
  induction l with
  | nil => cases h
  | cons x l ih =>
    simp only [List.flatMap_cons, List.length_append]
    rcases List.mem_cons.1 h with rfl | h
    · simp only [Event.part, List.length_append]
      omega
    · have := ih h
      omega
theorem pRec_back (x : Record) (h : x.ok) : pRec x.bytes = some ((x.key, x.events), []) := by
  have hk := h.1.2.1.1
  have hn := h.1.2.2.1
  have hev := h.1.2.2.2
  have hb := h.2
  unfold Record.bytes at hb ⊢
  unfold pRec
  rw [List.append_assoc, pShort_back _ (by have := h.1.2.1.2.1; omega)]
  simp only [List.cons_append, List.nil_append, pOne, u8_nat x.events.length (by omega), Int.toNat_natCast]
  have hp := pParts_back x.events [] [] (fun e he => by
    obtain ⟨i, hi, rfl⟩ := List.getElem_of_mem he
    refine ⟨hev i hi, ?_⟩
    have := part_le he
    simp only [List.length_append, List.length_cons, List.length_nil] at hb
    omega)
  rw [List.append_nil] at hp
  rw [hp]
  rfl

/-! ### What RecUnpack answers -/
def Record.none_ : Record := ⟨0, .empty, []⟩
def Record.from (p : Int) (s : ByteArray) (x : Record) : Prop := x.ok ∧ x.pos = p ∧ ba x.bytes = s
open Classical in
noncomputable def unrecR (p : Int) (s : ByteArray) : Record := if h : ∃ x, Record.from p s x then h.choose else Record.none_
noncomputable def unrecB (p : Int) (s : ByteArray) : Bool := tb (∃ x, Record.from p s x)
theorem rec_one {p : Int} {s : ByteArray} {x y : Record} (hx : Record.from p s x) (hy : Record.from p s y) : x = y := by
  have e : ba x.bytes = ba y.bytes := hx.2.2.trans hy.2.2.symm
  have e' : x.bytes = y.bytes := by
    have := congrArg (fun x => x.data.toList) e
    simpa [ba] using this
  have h1 := pRec_back x hx.1
  rw [e', pRec_back y hy.1] at h1
  simp only [Option.some.injEq, Prod.mk.injEq, and_true] at h1
  have h2 := hx.2.1.trans hy.2.1.symm
  cases x
  cases y
  simp only at h1 h2
  rw [h1.1, h1.2, h2]
theorem unrec_yes {p : Int} {s : ByteArray} {x : Record} (h : Record.from p s x) : unrecR p s = x ∧ unrecB p s = true := by
  have hex : ∃ x, Record.from p s x := ⟨x, h⟩
  refine ⟨?_, tb_true hex⟩
  unfold unrecR
  rw [dif_pos hex]
  exact rec_one hex.choose_spec h
theorem unrec_no {p : Int} {s : ByteArray} (h : ∀ x, ¬ Record.from p s x) : unrecR p s = Record.none_ ∧ unrecB p s = false := by
  have hex : ¬ ∃ x, Record.from p s x := fun ⟨x, hx⟩ => h x hx
  refine ⟨?_, tb_false hex⟩
  unfold unrecR
  rw [dif_neg hex]
theorem unrec_bad {p : Int} {s : ByteArray} (h : pRec s.data.toList = none) : unrecR p s = Record.none_ ∧ unrecB p s = false :=
  unrec_no (fun x hx => by
    have h1 := pRec_back x hx.1
    have e : x.bytes = s.data.toList := by rw [← hx.2.2]; simp [ba]
    rw [e, h] at h1
    cases h1)
theorem unrec_long {p : Int} {s : ByteArray} (h : 2000 < s.size) : unrecR p s = Record.none_ ∧ unrecB p s = false :=
  unrec_no (fun x hx => by
    have h1 := hx.1.2
    have e : s.size = x.bytes.length := by rw [← hx.2.2]; exact ba_size _
    omega)
/-- what was read, and its bytes -/
theorem unrec_back {p : Int} {s : ByteArray} {x : Record} (hp : x.pos = p) (hs : s ≠ .empty) (h : x.packed = s) : unrecR p s = x ∧ unrecB p s = true := by
  by_cases hx : x.ok
  · rw [Record.packed_yes hx] at h
    exact unrec_yes ⟨hx, hp, h⟩
  · rw [Record.packed_no hx] at h
    exact absurd h.symm hs
theorem unrec_other {p : Int} {s : ByteArray} {x : Record} {r : List UInt8} (hp : x.pos = p) (hr : pRec s.data.toList = some ((x.key, x.events), r)) (h : x.packed ≠ s) : unrecR p s = Record.none_ ∧ unrecB p s = false :=
  unrec_no (fun y hy => by
    have h1 := pRec_back y hy.1
    have e : y.bytes = s.data.toList := by rw [← hy.2.2]; simp [ba]
    rw [e, hr] at h1
    simp only [Option.some.injEq, Prod.mk.injEq] at h1
    have h2 := hy.2.1
    have h3 : x = y := by
      cases x
      cases y
      simp only at h1 h2 hp
      rw [h1.1.1, h1.1.2, h2, hp]
    subst h3
    exact h ((Record.packed_yes hy.1).trans hy.2.2))
theorem unrec_empty {p : Int} : unrecR p .empty = Record.none_ ∧ unrecB p .empty = false := unrec_bad rfl
end Go.Proofs.Ytbjblchhenmgjaa
namespace Go.Proofs.Ytbjblchhenmgjaa
open Go.ChangeShapes Go.WideShapes Go.ChangeAt Go.RowKit

inductive Kind where
  | mk (sort : Int) (names : List ByteArray) (kids : List Kind)
def Kind.sort : Kind → Int | .mk x _ _ => x
def Kind.names : Kind → List ByteArray | .mk _ x _ => x
def Kind.kids : Kind → List Kind | .mk _ _ x => x
mutual
def Kind.cells : Kind → List D
  | .mk sort names kids => [.v (.int .i64 sort)] ++ [.s 1 names.length (names.flatMap strC)] ++ [.s 3 kids.length (Kind.cellsS kids)]
def Kind.cellsS : List Kind → List D
  | [] => []
  | x :: r => x.cells ++ Kind.cellsS r
end
mutual
def Kind.bulk : Kind → Nat
  | .mk sort names kids => bulkStrs names + kids.length + Kind.bulkS kids
def Kind.bulkS : List Kind → Nat
  | [] => 0
  | x :: r => x.bulk + Kind.bulkS r
end
theorem Kind.cellsS_flat : ∀ (l : List Kind), Kind.cellsS l = l.flatMap Kind.cells
  | [] => rfl
  | x :: r => by simp [Kind.cellsS, Kind.cellsS_flat r]
theorem Kind.cells_eq (x : Kind) : x.cells = [.v (.int .i64 x.sort), .s 1 x.names.length (x.names.flatMap strC), .s 3 x.kids.length (x.kids.flatMap Kind.cells)] := by
  cases x; simp [Kind.cells, Kind.sort, Kind.names, Kind.kids, Kind.cellsS_flat]
theorem Kind.bulk_eq (x : Kind) : x.bulk = bulkStrs x.names + x.kids.length + Kind.bulkS x.kids := by cases x; rfl
theorem Kind.ind {P : Kind → Prop} (h : ∀ k, (∀ x ∈ k.kids, P x) → P k) : ∀ k, P k
  | .mk sort names kids => h _ fun x hx => Kind.ind h x
termination_by k => SizeOf.sizeOf k
decreasing_by
  simp only [Kind.kids] at hx
  have := List.sizeOf_lt_of_mem hx
  simp only [Kind.mk.sizeOf_spec]
  omega
theorem Kind.cells_len (x : Kind) : x.cells.length = 3 := by rw [Kind.cells_eq]; rfl
def Kind.bulkL (l : List Kind) : Nat := l.length + Kind.bulkS l
theorem Kind.bulkS_append (a b : List Kind) : Kind.bulkS (a ++ b) = Kind.bulkS a + Kind.bulkS b := by
  induction a with
  | nil => simp [Kind.bulkS]
  | cons x a ih => simp [Kind.bulkS, ih]; omega
theorem Kind.bulkS_snoc (l : List Kind) (k : Nat) (h : k < l.length) : Kind.bulkS (l.take (k + 1)) = Kind.bulkS (l.take k) + l[k].bulk := by
  rw [List.take_succ_eq_append_getElem h, Kind.bulkS_append]
  simp [Kind.bulkS]
theorem Kind.bulkS_le (l : List Kind) (k : Nat) : Kind.bulkS (l.take k) ≤ Kind.bulkS l := by
  conv => rhs; rw [← List.take_append_drop k l, Kind.bulkS_append]
  omega
theorem Kind.bulk_at (l : List Kind) (k : Nat) (h : k < l.length) : l[k].bulk ≤ Kind.bulkS l := by
  have h1 := Kind.bulkS_snoc l k h
  have h2 := Kind.bulkS_le l (k + 1)
  omega
theorem Kind.cells_snoc (l : List Kind) (k : Nat) (h : k < l.length) : (l.take (k + 1)).flatMap Kind.cells = (l.take k).flatMap Kind.cells ++ l[k].cells := by
  rw [List.take_succ_eq_append_getElem h, List.flatMap_append]
  simp
theorem OwC.oKind {w : World} {x : Kind} {us : List Value} {fp : List Nat} (h : OwC w x.cells us fp) :
    ∃ A1 c1 A2 c2 f1 f2, us = [.int .i64 x.sort, .slice A1 x.names.length c1, .slice A2 x.kids.length c2] ∧ (Lit.int .i64 x.sort).wf = true ∧ Ow w (.s 1 x.names.length (x.names.flatMap strC)) (.slice A1 x.names.length c1) f1 ∧ Ow w (.s 3 x.kids.length (x.kids.flatMap Kind.cells)) (.slice A2 x.kids.length c2) f2 ∧ fp = f1 ++ (f2) := by
  rw [Kind.cells_eq] at h
  match us, OwC.length _ h with
  | [u0, u1, u2], _ =>
    simp only [OwC] at h
    obtain ⟨g0, _, h0, ⟨g1, _, h1, ⟨g2, _, h2, rfl, rfl⟩, rfl⟩, rfl⟩ := h
    simp only [Ow, okAtom] at h0
    obtain ⟨rfl, w0, rfl⟩ := h0
    obtain ⟨A1, c1, rfl, _⟩ := h1.slice
    obtain ⟨A2, c2, rfl, _⟩ := h2.slice
    exact ⟨A1, c1, A2, c2, g1, g2, rfl, w0, h1, h2, by simp⟩
theorem OwC.mKind {w : World} {x : Kind} {v1 v2 : Value} {f1 f2 : List Nat} (w0 : (Lit.int .i64 x.sort).wf = true) (h1 : Ow w (.s 1 x.names.length (x.names.flatMap strC)) v1 f1) (h2 : Ow w (.s 3 x.kids.length (x.kids.flatMap Kind.cells)) v2 f2) :
    OwC w x.cells [.int .i64 x.sort, v1, v2] (f1 ++ (f2)) := by
  have h : OwC w x.cells [.int .i64 x.sort, v1, v2] ([] ++ (f1 ++ (f2 ++ ([])))) := by
    rw [Kind.cells_eq]
    exact ⟨_, _, ⟨rfl, w0, rfl⟩, ⟨_, _, h1, ⟨_, _, h2, rfl, rfl⟩, rfl⟩, rfl⟩
  simpa using h
end Go.Proofs.Ytbjblchhenmgjaa
namespace Go.Proofs.Ytbjblchhenmgjaa
open Go.ChangeShapes Go.WideShapes Go.ChangeAt Go.RowKit



def EqKind (x : Kind) : Prop := ∀ (us vs : List Value) (fp fq : List Nat) (w : World), OwC w x.cells us fp → OwC w x.cells vs fq → Lt fp w.heap.size → Lt fq w.heap.size →
  Calls Try.prog 30 #[.agg us.toArray, .agg vs.toArray] w fun e w' => e = .returned (.bool true) ∧ Below w.heap.size w w'
def EqKindS (l : List Kind) : Prop := ∀ (A A' : Option Addr) (n n' c c' : Nat) (fp fq : List Nat) (w : World), Ow w (.s 3 l.length (l.flatMap Kind.cells)) (.slice A n c) fp → Ow w (.s 3 l.length (l.flatMap Kind.cells)) (.slice A' n' c') fq → Lt fp w.heap.size → Lt fq w.heap.size →
  Calls Try.prog 98 #[.slice A n c, .slice A' n' c'] w fun e w' => e = .returned (.bool true) ∧ Below w.heap.size w w'
set_option maxRecDepth 100000 in
theorem eqKind_of (x : Kind) (ih : EqKindS x.kids) : EqKind x := by
  intro us vs fp fq w ho ho' hf hf'
  obtain ⟨A1, c1, A2, c2, f1, f2, rfl, w0, o1, o2, rfl⟩ := ho.oKind
  obtain ⟨bA1, bc1, bA2, bc2, bf1, bf2, rfl, bw0, bo1, bo2, rfl⟩ := ho'.oKind
  have l1 := hf.left
  have l2 := hf.right
  have k1 := hf'.left
  have k2 := hf'.right
  have HI := hide ih
  clear ih
  have hB0 : Below w.heap.size w ((w.alloc (.cells #[.int .i64 x.sort, .slice A1 x.names.length c1, .slice A2 x.kids.length c2] 47)).alloc (.cells #[.int .i64 x.sort, .slice bA1 x.names.length bc1, .slice bA2 x.kids.length bc2] 47)) := ((Below.refl _ _).alloc (Nat.le_refl _) _).alloc (by simp) _
  have R0 : Row ((w.alloc (.cells #[.int .i64 x.sort, .slice A1 x.names.length c1, .slice A2 x.kids.length c2] 47)).alloc (.cells #[.int .i64 x.sort, .slice bA1 x.names.length bc1, .slice bA2 x.kids.length bc2] 47)) w.heap.size 47 [.int .i64 x.sort, .slice A1 x.names.length c1, .slice A2 x.kids.length c2] := (Row.new w _ _).alloc _
  have S0 : Row ((w.alloc (.cells #[.int .i64 x.sort, .slice A1 x.names.length c1, .slice A2 x.kids.length c2] 47)).alloc (.cells #[.int .i64 x.sort, .slice bA1 x.names.length bc1, .slice bA2 x.kids.length bc2] 47)) (w.heap.size + 1) 47 [.int .i64 x.sort, .slice bA1 x.names.length bc1, .slice bA2 x.kids.length bc2] := by
    have h := Row.new (w.alloc (.cells #[.int .i64 x.sort, .slice A1 x.names.length c1, .slice A2 x.kids.length c2] 47)) 47 [.int .i64 x.sort, .slice bA1 x.names.length bc1, .slice bA2 x.kids.length bc2]
    simpa using h
  clear ho ho'
  go_enter Try.func30, Try.ntmps30
  go_wp2_with fail
  refine (eqStringS_same _ _ _ _ _ _ _ _ _ _ (o1.below hB0 l1) (bo1.below hB0 k1)).mono ?_
  rintro e w1_ ⟨rfl, hb1⟩
  have hB1 := hB0.trans (hb1.mono hB0.size)
  have R1 := R0.below hb1 R0.lt
  have S1 := S0.below hb1 S0.lt
  have c1_2 := R1.cell 2
  have d1_2 := S1.cell 2
  go_wp2_with fail
  refine (HI.out _ _ _ _ _ _ _ _ _ (o2.below hB1 l2) (bo2.below hB1 k2) (l2.up hB1) (k2.up hB1)).mono ?_
  rintro e w2_ ⟨rfl, hb2⟩
  have hB2 := hB1.trans (hb2.mono hB1.size)
  have R2 := R1.below hb2 R1.lt
  have S2 := S1.below hb2 S1.lt
  go_wp2
  go_ret
  exact ⟨rfl, hB2⟩
set_option maxRecDepth 100000 in
theorem eqKindS_of (l : List Kind) (ih : ∀ x ∈ l, EqKind x) : EqKindS l := by
  intro A A' n n' c c' fp fq w h h' hf hf'
  obtain ⟨rfl, hc, hm⟩ := h.nlen
  obtain ⟨rfl, hc', hm'⟩ := h'.nlen
  unfold maxLen at hm hm'
  go_enter Try.func98, Try.ntmps98
  go_wp2
  go_loopw [5] (fun i wr => (∃ k : Nat, k ≤ l.length ∧ i = .int .i64 k) ∧ Below w.heap.size w wr) (fun i _ => l.length - (intOf i).toNat)
  case atStart => exact ⟨⟨0, Nat.zero_le _, rfl⟩, Below.refl _ _⟩
  case round =>
    obtain ⟨⟨k, hk, rfl⟩, hb⟩ := hrel
    by_cases hlt : k < l.length
    · obtain ⟨g, off, vs, fi, rfl, hg, hfi, hvl, hcs, hov⟩ := (h.below hb hf).elem Kind.cells_len hlt
      obtain ⟨g', off', vs', fi', rfl, hg', hfi', hvl', hcs', hov'⟩ := (h'.below hb hf').elem Kind.cells_len hlt
      have HO := hide hov
      have HO' := hide hov'
      obtain ⟨A1, c1, A2, c2, f1, f2, rfl, w0, o1, o2, rfl⟩ := hov.oKind
      obtain ⟨bA1, bc1, bA2, bc2, bf1, bf2, rfl, bw0, bo1, bo2, rfl⟩ := hov'.oKind
      have p0 := hcs 0 _ rfl
      have q0 := hcs' 0 _ rfl
      have p1 := hcs 1 _ rfl
      have q1 := hcs' 1 _ rfl
      have p2 := hcs 2 _ rfl
      have q2 := hcs' 2 _ rfl
      simp only [Nat.add_zero] at p0 q0
      have HC := hide (ih _ (List.getElem_mem hlt))
      clear hcs hcs' hov hov'
      generalize l[k] = x at *
      go_wp2_with fail
      go_still_tail 8, (by kernel_rfl)
      change wpList _ _ _ _ _ wr.drew
      go_wp2_with fail
      refine (HC.out _ _ _ _ _ (HO.out.drewN 1) (HO'.out.drewN 1) (hf.sub hfi |>.mono hb.size) (hf'.sub hfi' |>.mono hb.size)).mono ?_
      rintro e w1 ⟨rfl, hb1⟩
      go_wp2
      go_roundw
      case rel => exact ⟨⟨k + 1, by omega, by go_num⟩, (below_drewN hb 1).trans (hb1.mono hb.size)⟩
      case measure => simp [intOf]; omega
    · obtain rfl : k = l.length := by omega
      go_wp2
      go_ret
      exact ⟨rfl, hb⟩

theorem eqKind_any (x : Kind) : EqKind x := Kind.ind (fun k ih => eqKind_of k (eqKindS_of _ ih)) x
theorem eqKindS_any (l : List Kind) : EqKindS l := eqKindS_of l fun x _ => eqKind_any x

end Go.Proofs.Ytbjblchhenmgjaa
