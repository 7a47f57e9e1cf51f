/-
  LogAct as data: its cells, its size. DiskWrite: what the laws' own helpers do: the size, a copy, equality. From the form's reading of an argument to the words of the walks.
-/
import Derived.Test.YtddjgbhkfdpffaaGreatDoorWStr
import Derived.Test.YtddjgbhkfdpffaaGreatDoorWDDiskWrite
set_option linter.unusedVariables false
set_option linter.unusedSimpArgs false
namespace Go.Proofs.YtddjgbhkfdpffaaGreatDoor
open Go.ChangeShapes Go.WideShapes Go.ChangeAt Go.RowKit

structure LogAct where
  kind : Int
  data : ByteArray
  cuts : Bool
  after : Int
  moves : Int
  keep : List Int
def LogAct.cells (x : LogAct) : List D := [.v (.int .i64 x.kind), .v (.string x.data), .v (.bool x.cuts), .v (.int .i64 x.after), .v (.int .i64 x.moves), .s 1 x.keep.length (x.keep.flatMap intC)]
theorem LogAct.cells_eq (x : LogAct) : x.cells = [.v (.int .i64 x.kind), .v (.string x.data), .v (.bool x.cuts), .v (.int .i64 x.after), .v (.int .i64 x.moves), .s 1 x.keep.length (x.keep.flatMap intC)] := rfl
def LogAct.bulk (x : LogAct) : Nat := x.data.size + x.keep.length
theorem LogAct.bulk_eq (x : LogAct) : x.bulk = x.data.size + x.keep.length := rfl
def LogAct.bulkS : List LogAct → Nat
  | [] => 0
  | x :: r => x.bulk + LogAct.bulkS r
theorem LogAct.cells_len (x : LogAct) : x.cells.length = 6 := by rw [LogAct.cells_eq]; rfl
def LogAct.bulkL (l : List LogAct) : Nat := l.length + LogAct.bulkS l
theorem LogAct.bulkS_append (a b : List LogAct) : LogAct.bulkS (a ++ b) = LogAct.bulkS a + LogAct.bulkS b := by
  induction a with
  | nil => simp [LogAct.bulkS]
  | cons x a ih => simp [LogAct.bulkS, ih]; omega
theorem LogAct.bulkS_snoc (l : List LogAct) (k : Nat) (h : k < l.length) : LogAct.bulkS (l.take (k + 1)) = LogAct.bulkS (l.take k) + l[k].bulk := by
  rw [List.take_succ_eq_append_getElem h, LogAct.bulkS_append]
  simp [LogAct.bulkS]
theorem LogAct.bulkS_le (l : List LogAct) (k : Nat) : LogAct.bulkS (l.take k) ≤ LogAct.bulkS l := by
  conv => rhs; rw [← List.take_append_drop k l, LogAct.bulkS_append]
  omega
theorem LogAct.bulk_at (l : List LogAct) (k : Nat) (h : k < l.length) : l[k].bulk ≤ LogAct.bulkS l := by
  have h1 := LogAct.bulkS_snoc l k h
  have h2 := LogAct.bulkS_le l (k + 1)
  omega
theorem LogAct.cells_snoc (l : List LogAct) (k : Nat) (h : k < l.length) : (l.take (k + 1)).flatMap LogAct.cells = (l.take k).flatMap LogAct.cells ++ l[k].cells := by
  rw [List.take_succ_eq_append_getElem h, List.flatMap_append]
  simp
theorem OwC.oLogAct {w : World} {x : LogAct} {us : List Value} {fp : List Nat} (h : OwC w x.cells us fp) :
    ∃ A1 c1 f1, us = [.int .i64 x.kind, .string x.data, .bool x.cuts, .int .i64 x.after, .int .i64 x.moves, .slice A1 x.keep.length c1] ∧ (Lit.int .i64 x.kind).wf = true ∧ x.data.size ≤ maxLen ∧ (Lit.int .i64 x.after).wf = true ∧ (Lit.int .i64 x.moves).wf = true ∧ Ow w (.s 1 x.keep.length (x.keep.flatMap intC)) (.slice A1 x.keep.length c1) f1 ∧ f1 = fp := by
  rw [LogAct.cells_eq] at h
  match us, OwC.length _ h with
  | [u0, u1, u2, u3, u4, u5], _ =>
    simp only [OwC] at h
    obtain ⟨g0, _, h0, ⟨g1, _, h1, ⟨g2, _, h2, ⟨g3, _, h3, ⟨g4, _, h4, ⟨g5, _, h5, rfl, rfl⟩, rfl⟩, rfl⟩, rfl⟩, rfl⟩, rfl⟩ := h
    simp only [Ow, okAtom] at h0
    obtain ⟨rfl, w0, rfl⟩ := h0
    simp only [Ow, okAtom] at h1
    obtain ⟨rfl, w1, rfl⟩ := h1
    simp only [Ow, okAtom] at h2
    obtain ⟨rfl, _, rfl⟩ := h2
    simp only [Ow, okAtom] at h3
    obtain ⟨rfl, w3, rfl⟩ := h3
    simp only [Ow, okAtom] at h4
    obtain ⟨rfl, w4, rfl⟩ := h4
    obtain ⟨A1, c1, rfl, _⟩ := h5.slice
    exact ⟨A1, c1, g5, rfl, w0, w1, w3, w4, h5, by simp⟩
theorem OwC.mLogAct {w : World} {x : LogAct} {v1 : Value} {f1 : List Nat} (w0 : (Lit.int .i64 x.kind).wf = true) (w1 : x.data.size ≤ maxLen) (w3 : (Lit.int .i64 x.after).wf = true) (w4 : (Lit.int .i64 x.moves).wf = true) (h5 : Ow w (.s 1 x.keep.length (x.keep.flatMap intC)) v1 f1) :
    OwC w x.cells [.int .i64 x.kind, .string x.data, .bool x.cuts, .int .i64 x.after, .int .i64 x.moves, v1] (f1) := by
  have h : OwC w x.cells [.int .i64 x.kind, .string x.data, .bool x.cuts, .int .i64 x.after, .int .i64 x.moves, v1] ([] ++ ([] ++ ([] ++ ([] ++ ([] ++ (f1 ++ ([]))))))) := by
    rw [LogAct.cells_eq]
    exact ⟨_, _, ⟨rfl, w0, rfl⟩, ⟨_, _, ⟨rfl, w1, rfl⟩, ⟨_, _, ⟨rfl, trivial, rfl⟩, ⟨_, _, ⟨rfl, w3, rfl⟩, ⟨_, _, ⟨rfl, w4, rfl⟩, ⟨_, _, h5, rfl, rfl⟩, rfl⟩, rfl⟩, rfl⟩, rfl⟩, rfl⟩
  simpa using h
end Go.Proofs.YtddjgbhkfdpffaaGreatDoor
set_option linter.unusedVariables false
set_option linter.unusedSimpArgs false
namespace Go.Proofs.YtddjgbhkfdpffaaGreatDoor
open Go.ChangeShapes Go.WideShapes Go.ChangeAt Go.RowKit



def EqDiskWrite (x : DiskWrite) : Prop := ∀ (us vs : List Value) (fp fq : List Nat) (w : World), OwC w x.cells us fp → OwC w x.cells vs fq → Lt fp w.heap.size → Lt fq w.heap.size →
  Calls Tryz.prog 61 #[.agg us.toArray, .agg vs.toArray] w fun e w' => e = .returned (.bool true) ∧ Below w.heap.size w w'
set_option maxRecDepth 100000 in
theorem eqDiskWrite_of (x : DiskWrite) : EqDiskWrite x := by
  intro us vs fp fq w ho ho' hf hf'
  obtain ⟨rfl, w0, w1, w2, rfl⟩ := ho.oDiskWrite
  obtain ⟨rfl, bw0, bw1, bw2, rfl⟩ := ho'.oDiskWrite
  have hB0 : Below w.heap.size w ((w.alloc (.cells #[.int .i64 x.kind, .string x.name, .string x.data] 98)).alloc (.cells #[.int .i64 x.kind, .string x.name, .string x.data] 98)) := ((Below.refl _ _).alloc (Nat.le_refl _) _).alloc (by simp) _
  have R0 : Row ((w.alloc (.cells #[.int .i64 x.kind, .string x.name, .string x.data] 98)).alloc (.cells #[.int .i64 x.kind, .string x.name, .string x.data] 98)) w.heap.size 98 [.int .i64 x.kind, .string x.name, .string x.data] := (Row.new w _ _).alloc _
  have S0 : Row ((w.alloc (.cells #[.int .i64 x.kind, .string x.name, .string x.data] 98)).alloc (.cells #[.int .i64 x.kind, .string x.name, .string x.data] 98)) (w.heap.size + 1) 98 [.int .i64 x.kind, .string x.name, .string x.data] := by
    have h := Row.new (w.alloc (.cells #[.int .i64 x.kind, .string x.name, .string x.data] 98)) 98 [.int .i64 x.kind, .string x.name, .string x.data]
    simpa using h
  clear ho ho'
  go_enter Tryz.func61, Tryz.ntmps61
  go_wp2
  go_ret
  exact ⟨rfl, hB0⟩
theorem eqDiskWrite_any (x : DiskWrite) : EqDiskWrite x := eqDiskWrite_of x
def EqDiskWriteS (l : List DiskWrite) : Prop := ∀ (A A' : Option Addr) (n n' c c' : Nat) (fp fq : List Nat) (w : World), Ow w (.s 3 l.length (l.flatMap DiskWrite.cells)) (.slice A n c) fp → Ow w (.s 3 l.length (l.flatMap DiskWrite.cells)) (.slice A' n' c') fq → Lt fp w.heap.size → Lt fq w.heap.size →
  Calls Tryz.prog 19 #[.slice A n c, .slice A' n' c'] w fun e w' => e = .returned (.bool true) ∧ Below w.heap.size w w'
set_option maxRecDepth 100000 in
theorem eqDiskWriteS_of (l : List DiskWrite) (ih : ∀ x ∈ l, EqDiskWrite x) : EqDiskWriteS l := by
  intro A A' n n' c c' fp fq w h h' hf hf'
  obtain ⟨rfl, hc, hm⟩ := h.nlen
  obtain ⟨rfl, hc', hm'⟩ := h'.nlen
  unfold maxLen at hm hm'
  go_enter Tryz.func19, Tryz.ntmps19
  go_wp2
  go_loopw [5] (fun i wr => (∃ k : Nat, k ≤ l.length ∧ i = .int .i64 k) ∧ Below w.heap.size w wr) (fun i _ => l.length - (intOf i).toNat)
  case atStart => exact ⟨⟨0, Nat.zero_le _, rfl⟩, Below.refl _ _⟩
  case round =>
    obtain ⟨⟨k, hk, rfl⟩, hb⟩ := hrel
    by_cases hlt : k < l.length
    · obtain ⟨g, off, vs, fi, rfl, hg, hfi, hvl, hcs, hov⟩ := (h.below hb hf).elem DiskWrite.cells_len hlt
      obtain ⟨g', off', vs', fi', rfl, hg', hfi', hvl', hcs', hov'⟩ := (h'.below hb hf').elem DiskWrite.cells_len hlt
      have HO := hide hov
      have HO' := hide hov'
      obtain ⟨rfl, w0, w1, w2, rfl⟩ := hov.oDiskWrite
      obtain ⟨rfl, bw0, bw1, bw2, rfl⟩ := hov'.oDiskWrite
      have p0 := hcs 0 _ rfl
      have q0 := hcs' 0 _ rfl
      have p1 := hcs 1 _ rfl
      have q1 := hcs' 1 _ rfl
      have p2 := hcs 2 _ rfl
      have q2 := hcs' 2 _ rfl
      simp only [Nat.add_zero] at p0 q0
      have HC := hide (ih _ (List.getElem_mem hlt))
      clear hcs hcs' hov hov'
      generalize l[k] = x at *
      go_wp2_with fail
      go_still_tail 8, (by kernel_rfl)
      change wpList _ _ _ _ _ wr.drew
      go_wp2_with fail
      refine (HC.out _ _ _ _ _ (HO.out.drewN 1) (HO'.out.drewN 1) (hf.sub hfi |>.mono hb.size) (hf'.sub hfi' |>.mono hb.size)).mono ?_
      rintro e w1 ⟨rfl, hb1⟩
      go_wp2
      go_roundw
      case rel => exact ⟨⟨k + 1, by omega, by go_num⟩, (below_drewN hb 1).trans (hb1.mono hb.size)⟩
      case measure => simp [intOf]; omega
    · obtain rfl : k = l.length := by omega
      go_wp2
      go_ret
      exact ⟨rfl, hb⟩

theorem eqDiskWriteS_any (l : List DiskWrite) : EqDiskWriteS l := eqDiskWriteS_of l fun x _ => eqDiskWrite_any x

end Go.Proofs.YtddjgbhkfdpffaaGreatDoor
set_option linter.unusedVariables false
set_option linter.unusedSimpArgs false
namespace Go.Proofs.YtddjgbhkfdpffaaGreatDoor
open Go.ChangeShapes Go.WideShapes Go.ChangeAt Go.RowKit Go.Deep

section
variable {H : Type} {enc : TypeId × Value → H} {P : Program} {w : World} {base : Nat} {spare : Nat → Bool} {held : Bool}

theorem rows_of {α : Type} (f : α → List D) (k : Nat) (hk : ∀ x, (f x).length = k) (g : Nat) (A : Nat → α) (F : Nat → List Nat) : ∀ (n off : Nat),
    (∀ i, i < n → OwL w (f (A i)) g (off + i * k) (F i)) → OwL w (((List.range n).map A).flatMap f) g off ((List.range n).flatMap F)
  | 0, off, _ => by simp [OwL]
  | n + 1, off, h => by
    rw [List.range_succ, List.map_append, List.flatMap_append, List.flatMap_append]
    refine (OwL.append _ _ _ _ _).2 ⟨_, _, rows_of f k hk g A F n off (fun i hi => h i (by omega)), ?_, rfl⟩
    rw [flat_len f k hk]
    have := h n (by omega)
    simpa using this

theorem Addr.flat {a : Addr} (h : a.spot = none) : a = ⟨a.block, a.off, none⟩ := by
  cases a; simp_all
theorem Addr.add_flat (b o j : Nat) : (⟨b, o, none⟩ : Addr).add j = ⟨b, o + j, none⟩ := by unfold Addr.add; split <;> simp_all

/-- A SLICE THAT CAME IN reads as a list, where its elements do. -/
theorem slice_read {α : Type} [Inhabited α] (f : α → List D) (k : Nat) (hk : ∀ x, (f x).length = k) (hk0 : 0 < k) {t e : TypeId} (ht : P.underlying t = some (.slice e)) (hc : P.cellsOf e = k) {fuel : Nat} {cs : List Value} {x : DataW H × List MemPlace}
    (elem : ∀ n, n < fuel → ∀ cs x, DataW.trod enc P w base spare held n e cs = some x → ∃ a fp, OwC w (f a) cs fp ∧ Lt fp w.heap.size)
    (h : DataW.trod enc P w base spare held fuel t cs = some x) :
    ∃ (l : List α) (v : Value) (fp : List Nat), cs = [v] ∧ Ow w (.s k l.length (l.flatMap f)) v fp ∧ Lt fp w.heap.size := by
  rcases DataW.trod_slice ht h with ⟨rfl, _⟩ | ⟨a, len, cap, elems, rest, n, rfl, rfl, _, hb, hl, hm, hlen, hel, _, _⟩
  · refine ⟨[], _, [], rfl, ?_, Lt.nil _⟩
    unfold Ow
    exact ⟨by simp, _, _, rfl, Nat.le_refl _, by unfold maxLen; omega, .inl ⟨rfl, rfl⟩⟩
  · have key : ∀ i, i < len → ∃ y : α × List Nat, OwL w (f y.1) a.block (a.off + i * k) y.2 ∧ Lt y.2 w.heap.size ∧ a.spot = none ∧ a.block < w.heap.size := by
      intro i hi
      have h1 := hel i hi
      rw [List.getElem?_eq_getElem (by omega), hc] at h1
      obtain ⟨cs', h2, h3⟩ := Option.bind_eq_some_iff.1 h1
      obtain ⟨y, fp, ho, hlt⟩ := elem n (by omega) cs' _ h3
      obtain ⟨_, hcl, hat⟩ := World.cells?_some h2
      have h00 : ∃ u, w.cell? (a.add (i * k)) = some u := by
        have := hat 0 hk0
        rw [List.getElem?_eq_getElem (by omega)] at this
        exact ⟨_, by simpa [Addr.add] using this⟩
      obtain ⟨u, hu⟩ := h00
      have hlt0 := World.block_lt_of_cell? w _ hu
      have hspot : (a.add (i * k)).spot = none := World.cell?_spot hu
      -- the slice's own address
      have hel0 := hel 0 (by omega)
      rw [List.getElem?_eq_getElem (by omega), hc] at hel0
      obtain ⟨cs0, g2, _⟩ := Option.bind_eq_some_iff.1 hel0
      obtain ⟨_, hcl0, hat0⟩ := World.cells?_some g2
      have g3 := hat0 0 hk0
      rw [List.getElem?_eq_getElem (by omega)] at g3
      have g4 : w.cell? a = some (cs0[0]'(by omega)) := by simpa [Addr.add] using g3
      have hsp : a.spot = none := World.cell?_spot g4
      have hlta := World.block_lt_of_cell? w _ g4
      refine ⟨(y, fp), ?_, hlt, hsp, hlta⟩
      refine OwC.row _ ho (fun j v hj => ?_)
      have hj' : j < k := by
        have h5 := OwC.length _ ho
        have h6 : j < cs'.length := by
          rcases Nat.lt_or_ge j cs'.length with h7 | h7
          · exact h7
          · rw [List.getElem?_eq_none h7] at hj; cases hj
        omega
      have h8 := hat j hj'
      rw [hj, Addr.flat hsp, Addr.add_flat, Addr.add_flat] at h8
      exact h8
    obtain ⟨F, hF⟩ := choose_lt (α := α × List Nat) key
    refine ⟨(List.range len).map fun i => (F i).1, _, if len = 0 then [] else a.block :: (List.range len).flatMap fun i => (F i).2, rfl, ?_, ?_⟩
    · unfold Ow
      refine ⟨by rw [flat_len f k hk], some a, cap, by simp, by simpa using hl, hm, ?_⟩
      by_cases h0 : len = 0
      · exact .inl ⟨by simpa using h0, by simp [h0]⟩
      · rw [if_neg h0]
        refine .inr ⟨by simp; omega, a.block, a.off, _, ?_, rows_of f k hk a.block (fun i => (F i).1) (fun i => (F i).2) len a.off (fun i hi => (hF i hi).1), rfl⟩
        rw [← Addr.flat (hF 0 (by omega)).2.2.1]
    · by_cases h0 : len = 0
      · rw [if_pos h0]; exact Lt.nil _
      · rw [if_neg h0]
        intro g hg
        rcases List.mem_cons.1 hg with rfl | hg
        · exact (hF 0 (by omega)).2.2.2
        · obtain ⟨i, hi, hg⟩ := List.mem_flatMap.1 hg
          exact (hF i (by simpa using hi)).2.1 g hg

theorem int_read {k : IntKind} {t : TypeId} (ht : P.underlying t = some (.int k)) {fuel : Nat} {cs : List Value} {x : DataW H × List MemPlace} (h : DataW.trod enc P w base spare held fuel t cs = some x) :
    ∃ n, cs = [.int k n] ∧ Ow w (.v (.int k n)) (.int k n) [] := by
  obtain ⟨n, rfl, _, hw⟩ := DataW.trod_int ht h
  exact ⟨n, rfl, by unfold Ow; exact ⟨rfl, hw, rfl⟩⟩
theorem str_read {t : TypeId} (ht : P.underlying t = some .string) {fuel : Nat} {cs : List Value} {x : DataW H × List MemPlace} (h : DataW.trod enc P w base spare held fuel t cs = some x) :
    ∃ s, cs = [.string s] ∧ Ow w (.v (.string s)) (.string s) [] := by
  obtain ⟨s, rfl, _, hw⟩ := DataW.trod_string ht h
  exact ⟨s, rfl, by unfold Ow; exact ⟨rfl, hw, rfl⟩⟩
theorem OwC.one {d : D} {v : Value} {fp : List Nat} (h : Ow w d v fp) : OwC w [d] [v] fp := ⟨fp, [], h, rfl, by simp⟩

/-- A FIELD OF A STRUCT THAT CAME IN -/
theorem field_read {t : TypeId} {fs : Array Field} (ht : P.underlying t = some (.struct fs)) {fuel : Nat} {cs : List Value} {x : DataW H × List MemPlace} (h : DataW.trod enc P w base spare held fuel t cs = some x) :
    cs.length = P.cellsOf t ∧ ∃ n, n < fuel ∧ ∀ (i : Nat) (u : TypeId) (o : Nat), (fs[i]?).map (fun f => (f.type, f.offset)) = some (u, o) → ∃ y, DataW.trod enc P w base spare held n u ((cs.drop o).take (P.cellsOf u)) = some y := by
  obtain ⟨xs, n, rfl, _, hl, hxl, hf⟩ := DataW.trod_struct ht h
  refine ⟨hl, n, by omega, fun i u o hu => ?_⟩
  obtain ⟨f, hi, e⟩ := Option.map_eq_some_iff.1 hu
  simp only [Prod.mk.injEq] at e
  obtain ⟨rfl, rfl⟩ := e
  have hlt : i < fs.size := (Array.getElem?_eq_some_iff.1 hi).1
  rw [hf i f hi, List.getElem?_eq_getElem (by omega)]
  exact ⟨_, rfl⟩
end

theorem cellsOf_int : Tryz.prog.cellsOf 3 = 1 := by kernel_rfl
theorem cellsOf_string : Tryz.prog.cellsOf 9 = 1 := by kernel_rfl
theorem cellsOf_bool : Tryz.prog.cellsOf 4 = 1 := by kernel_rfl
theorem cellsOf_strings : Tryz.prog.cellsOf 23 = 1 := by kernel_rfl
theorem strs_read {H : Type} {enc : TypeId × Value → H} {w : World} {base : Nat} {spare : Nat → Bool} {held : Bool} {fuel : Nat} {cs : List Value} {x : DataW H × List MemPlace} (h : DataW.trod enc Tryz.prog w base spare held fuel 23 cs = some x) :
    ∃ (l : List ByteArray) (v : Value) (fp : List Nat), cs = [v] ∧ Ow w (.s 1 l.length (l.flatMap strC)) v fp ∧ Lt fp w.heap.size :=
  slice_read strC 1 strC_len (by omega) Tryz.underlying23 (by kernel_rfl) (fun n _ cs x hx => by
    obtain ⟨s, rfl, ho⟩ := str_read Tryz.underlying9 hx
    exact ⟨s, [], OwC.one ho, Lt.nil _⟩) h
theorem cellsOf_ints : Tryz.prog.cellsOf 45 = 1 := by kernel_rfl
theorem ints_read {H : Type} {enc : TypeId × Value → H} {w : World} {base : Nat} {spare : Nat → Bool} {held : Bool} {fuel : Nat} {cs : List Value} {x : DataW H × List MemPlace} (h : DataW.trod enc Tryz.prog w base spare held fuel 45 cs = some x) :
    ∃ (l : List Int) (v : Value) (fp : List Nat), cs = [v] ∧ Ow w (.s 1 l.length (l.flatMap intC)) v fp ∧ Lt fp w.heap.size :=
  slice_read intC 1 intC_len (by omega) Tryz.underlying45 (by kernel_rfl) (fun n _ cs x hx => by
    obtain ⟨s, rfl, ho⟩ := int_read Tryz.underlying3 hx
    exact ⟨s, [], OwC.one ho, Lt.nil _⟩) h
end Go.Proofs.YtddjgbhkfdpffaaGreatDoor
