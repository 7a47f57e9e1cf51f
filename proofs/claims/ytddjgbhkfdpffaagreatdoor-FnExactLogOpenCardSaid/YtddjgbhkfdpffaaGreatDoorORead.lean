/-
  DiskFile as data: its cells, its size. LogPlan as data: its cells, its size. From the form's reading of an argument to the words of the walks.
-/
import Derived.Test.YtddjgbhkfdpffaaGreatDoorOStr
import Derived.Test.YtddjgbhkfdpffaaGreatDoorODLogPart
set_option linter.unusedVariables false
set_option linter.unusedSimpArgs false
namespace Go.Proofs.YtddjgbhkfdpffaaGreatDoor
open Go.ChangeShapes Go.WideShapes Go.ChangeAt Go.RowKit

structure DiskFile where
  name : ByteArray
  data : ByteArray
  kept : Int
def DiskFile.cells (x : DiskFile) : List D := [.v (.string x.name), .v (.string x.data), .v (.int .i64 x.kept)]
theorem DiskFile.cells_eq (x : DiskFile) : x.cells = [.v (.string x.name), .v (.string x.data), .v (.int .i64 x.kept)] := rfl
def DiskFile.bulk (x : DiskFile) : Nat := x.name.size + x.data.size
theorem DiskFile.bulk_eq (x : DiskFile) : x.bulk = x.name.size + x.data.size := rfl
def DiskFile.bulkS : List DiskFile → Nat
  | [] => 0
  | x :: r => x.bulk + DiskFile.bulkS r
theorem DiskFile.cells_len (x : DiskFile) : x.cells.length = 3 := by rw [DiskFile.cells_eq]; rfl
def DiskFile.bulkL (l : List DiskFile) : Nat := l.length + DiskFile.bulkS l
theorem DiskFile.bulkS_append (a b : List DiskFile) : DiskFile.bulkS (a ++ b) = DiskFile.bulkS a + DiskFile.bulkS b := by
  induction a with
  | nil => simp [DiskFile.bulkS]
  | cons x a ih => simp [DiskFile.bulkS, ih]; omega
theorem DiskFile.bulkS_snoc (l : List DiskFile) (k : Nat) (h : k < l.length) : DiskFile.bulkS (l.take (k + 1)) = DiskFile.bulkS (l.take k) + l[k].bulk := by
  rw [List.take_succ_eq_append_getElem h, DiskFile.bulkS_append]
  simp [DiskFile.bulkS]
theorem DiskFile.bulkS_le (l : List DiskFile) (k : Nat) : DiskFile.bulkS (l.take k) ≤ DiskFile.bulkS l := by
  conv => rhs; rw [← List.take_append_drop k l, DiskFile.bulkS_append]
  omega
theorem DiskFile.bulk_at (l : List DiskFile) (k : Nat) (h : k < l.length) : l[k].bulk ≤ DiskFile.bulkS l := by
  have h1 := DiskFile.bulkS_snoc l k h
  have h2 := DiskFile.bulkS_le l (k + 1)
  omega
theorem DiskFile.cells_snoc (l : List DiskFile) (k : Nat) (h : k < l.length) : (l.take (k + 1)).flatMap DiskFile.cells = (l.take k).flatMap DiskFile.cells ++ l[k].cells := by
  rw [List.take_succ_eq_append_getElem h, List.flatMap_append]
  simp
theorem OwC.oDiskFile {w : World} {x : DiskFile} {us : List Value} {fp : List Nat} (h : OwC w x.cells us fp) :
    us = [.string x.name, .string x.data, .int .i64 x.kept] ∧ x.name.size ≤ maxLen ∧ x.data.size ≤ maxLen ∧ (Lit.int .i64 x.kept).wf = true ∧ fp = [] := by
  rw [DiskFile.cells_eq] at h
  match us, OwC.length _ h with
  | [u0, u1, u2], _ =>
    simp only [OwC] at h
    obtain ⟨g0, _, h0, ⟨g1, _, h1, ⟨g2, _, h2, rfl, rfl⟩, rfl⟩, rfl⟩ := h
    simp only [Ow, okAtom] at h0
    obtain ⟨rfl, w0, rfl⟩ := h0
    simp only [Ow, okAtom] at h1
    obtain ⟨rfl, w1, rfl⟩ := h1
    simp only [Ow, okAtom] at h2
    obtain ⟨rfl, w2, rfl⟩ := h2
    exact ⟨rfl, w0, w1, w2, by simp⟩
theorem OwC.mDiskFile {w : World} {x : DiskFile} (w0 : x.name.size ≤ maxLen) (w1 : x.data.size ≤ maxLen) (w2 : (Lit.int .i64 x.kept).wf = true) :
    OwC w x.cells [.string x.name, .string x.data, .int .i64 x.kept] ([]) := by
  have h : OwC w x.cells [.string x.name, .string x.data, .int .i64 x.kept] ([] ++ ([] ++ ([] ++ ([])))) := by
    rw [DiskFile.cells_eq]
    exact ⟨_, _, ⟨rfl, w0, rfl⟩, ⟨_, _, ⟨rfl, w1, rfl⟩, ⟨_, _, ⟨rfl, w2, rfl⟩, rfl, rfl⟩, rfl⟩, rfl⟩
  simpa using h
end Go.Proofs.YtddjgbhkfdpffaaGreatDoor
set_option linter.unusedVariables false
set_option linter.unusedSimpArgs false
namespace Go.Proofs.YtddjgbhkfdpffaaGreatDoor
open Go.ChangeShapes Go.WideShapes Go.ChangeAt Go.RowKit

structure LogPlan where
  parts : List LogPart
  open_ : Int
  first : Int
def LogPlan.cells (x : LogPlan) : List D := [.s 4 x.parts.length (x.parts.flatMap LogPart.cells), .v (.int .i64 x.open_), .v (.int .i64 x.first)]
theorem LogPlan.cells_eq (x : LogPlan) : x.cells = [.s 4 x.parts.length (x.parts.flatMap LogPart.cells), .v (.int .i64 x.open_), .v (.int .i64 x.first)] := rfl
def LogPlan.bulk (x : LogPlan) : Nat := LogPart.bulkL x.parts
theorem LogPlan.bulk_eq (x : LogPlan) : x.bulk = LogPart.bulkL x.parts := rfl
def LogPlan.bulkS : List LogPlan → Nat
  | [] => 0
  | x :: r => x.bulk + LogPlan.bulkS r
theorem LogPlan.cells_len (x : LogPlan) : x.cells.length = 3 := by rw [LogPlan.cells_eq]; rfl
def LogPlan.bulkL (l : List LogPlan) : Nat := l.length + LogPlan.bulkS l
theorem LogPlan.bulkS_append (a b : List LogPlan) : LogPlan.bulkS (a ++ b) = LogPlan.bulkS a + LogPlan.bulkS b := by
  induction a with
  | nil => simp [LogPlan.bulkS]
  | cons x a ih => simp [LogPlan.bulkS, ih]; omega
theorem LogPlan.bulkS_snoc (l : List LogPlan) (k : Nat) (h : k < l.length) : LogPlan.bulkS (l.take (k + 1)) = LogPlan.bulkS (l.take k) + l[k].bulk := by
  rw [List.take_succ_eq_append_getElem h, LogPlan.bulkS_append]
  simp [LogPlan.bulkS]
theorem LogPlan.bulkS_le (l : List LogPlan) (k : Nat) : LogPlan.bulkS (l.take k) ≤ LogPlan.bulkS l := by
  conv => rhs; rw [← List.take_append_drop k l, LogPlan.bulkS_append]
  omega
theorem LogPlan.bulk_at (l : List LogPlan) (k : Nat) (h : k < l.length) : l[k].bulk ≤ LogPlan.bulkS l := by
  have h1 := LogPlan.bulkS_snoc l k h
  have h2 := LogPlan.bulkS_le l (k + 1)
  omega
theorem LogPlan.cells_snoc (l : List LogPlan) (k : Nat) (h : k < l.length) : (l.take (k + 1)).flatMap LogPlan.cells = (l.take k).flatMap LogPlan.cells ++ l[k].cells := by
  rw [List.take_succ_eq_append_getElem h, List.flatMap_append]
  simp
theorem OwC.oLogPlan {w : World} {x : LogPlan} {us : List Value} {fp : List Nat} (h : OwC w x.cells us fp) :
    ∃ A1 c1 f1, us = [.slice A1 x.parts.length c1, .int .i64 x.open_, .int .i64 x.first] ∧ Ow w (.s 4 x.parts.length (x.parts.flatMap LogPart.cells)) (.slice A1 x.parts.length c1) f1 ∧ (Lit.int .i64 x.open_).wf = true ∧ (Lit.int .i64 x.first).wf = true ∧ fp = f1 := by
  rw [LogPlan.cells_eq] at h
  match us, OwC.length _ h with
  | [u0, u1, u2], _ =>
    simp only [OwC] at h
    obtain ⟨g0, _, h0, ⟨g1, _, h1, ⟨g2, _, h2, rfl, rfl⟩, rfl⟩, rfl⟩ := h
    obtain ⟨A1, c1, rfl, _⟩ := h0.slice
    simp only [Ow, okAtom] at h1
    obtain ⟨rfl, w1, rfl⟩ := h1
    simp only [Ow, okAtom] at h2
    obtain ⟨rfl, w2, rfl⟩ := h2
    exact ⟨A1, c1, g0, rfl, h0, w1, w2, by simp⟩
theorem OwC.mLogPlan {w : World} {x : LogPlan} {v1 : Value} {f1 : List Nat} (h0 : Ow w (.s 4 x.parts.length (x.parts.flatMap LogPart.cells)) v1 f1) (w1 : (Lit.int .i64 x.open_).wf = true) (w2 : (Lit.int .i64 x.first).wf = true) :
    OwC w x.cells [v1, .int .i64 x.open_, .int .i64 x.first] (f1) := by
  have h : OwC w x.cells [v1, .int .i64 x.open_, .int .i64 x.first] (f1 ++ ([] ++ ([] ++ ([])))) := by
    rw [LogPlan.cells_eq]
    exact ⟨_, _, h0, ⟨_, _, ⟨rfl, w1, rfl⟩, ⟨_, _, ⟨rfl, w2, rfl⟩, rfl, rfl⟩, rfl⟩, rfl⟩
  simpa using h
end Go.Proofs.YtddjgbhkfdpffaaGreatDoor
set_option linter.unusedVariables false
set_option linter.unusedSimpArgs false
namespace Go.Proofs.YtddjgbhkfdpffaaGreatDoor
open Go.ChangeShapes Go.WideShapes Go.ChangeAt Go.RowKit Go.Deep

section
variable {H : Type} {enc : TypeId × Value → H} {P : Program} {w : World} {base : Nat} {spare : Nat → Bool} {held : Bool}

theorem rows_of {α : Type} (f : α → List D) (k : Nat) (hk : ∀ x, (f x).length = k) (g : Nat) (A : Nat → α) (F : Nat → List Nat) : ∀ (n off : Nat),
    (∀ i, i < n → OwL w (f (A i)) g (off + i * k) (F i)) → OwL w (((List.range n).map A).flatMap f) g off ((List.range n).flatMap F)
  | 0, off, _ => by simp [OwL]
  | n + 1, off, h => by
    rw [List.range_succ, List.map_append, List.flatMap_append, List.flatMap_append]
    refine (OwL.append _ _ _ _ _).2 ⟨_, _, rows_of f k hk g A F n off (fun i hi => h i (by omega)), ?_, rfl⟩
    rw [flat_len f k hk]
    have := h n (by omega)
    simpa using this

theorem Addr.flat {a : Addr} (h : a.spot = none) : a = ⟨a.block, a.off, none⟩ := by
  cases a; simp_all
theorem Addr.add_flat (b o j : Nat) : (⟨b, o, none⟩ : Addr).add j = ⟨b, o + j, none⟩ := by unfold Addr.add; split <;> simp_all

/-- A SLICE THAT CAME IN reads as a list, where its elements do. -/
theorem slice_read {α : Type} [Inhabited α] (f : α → List D) (k : Nat) (hk : ∀ x, (f x).length = k) (hk0 : 0 < k) {t e : TypeId} (ht : P.underlying t = some (.slice e)) (hc : P.cellsOf e = k) {fuel : Nat} {cs : List Value} {x : DataW H × List MemPlace}
    (elem : ∀ n, n < fuel → ∀ cs x, DataW.trod enc P w base spare held n e cs = some x → ∃ a fp, OwC w (f a) cs fp ∧ Lt fp w.heap.size)
    (h : DataW.trod enc P w base spare held fuel t cs = some x) :
    ∃ (l : List α) (v : Value) (fp : List Nat), cs = [v] ∧ Ow w (.s k l.length (l.flatMap f)) v fp ∧ Lt fp w.heap.size := by
  rcases DataW.trod_slice ht h with ⟨rfl, _⟩ | ⟨a, len, cap, elems, rest, n, rfl, rfl, _, hb, hl, hm, hlen, hel, _, _⟩
  · refine ⟨[], _, [], rfl, ?_, Lt.nil _⟩
    unfold Ow
    exact ⟨by simp, _, _, rfl, Nat.le_refl _, by unfold maxLen; omega, .inl ⟨rfl, rfl⟩⟩
  · have key : ∀ i, i < len → ∃ y : α × List Nat, OwL w (f y.1) a.block (a.off + i * k) y.2 ∧ Lt y.2 w.heap.size ∧ a.spot = none ∧ a.block < w.heap.size := by
      intro i hi
      have h1 := hel i hi
      rw [List.getElem?_eq_getElem (by omega), hc] at h1
      obtain ⟨cs', h2, h3⟩ := Option.bind_eq_some_iff.1 h1
      obtain ⟨y, fp, ho, hlt⟩ := elem n (by omega) cs' _ h3
      obtain ⟨_, hcl, hat⟩ := World.cells?_some h2
      have h00 : ∃ u, w.cell? (a.add (i * k)) = some u := by
        have := hat 0 hk0
        rw [List.getElem?_eq_getElem (by omega)] at this
        exact ⟨_, by simpa [Addr.add] using this⟩
      obtain ⟨u, hu⟩ := h00
      have hlt0 := World.block_lt_of_cell? w _ hu
      have hspot : (a.add (i * k)).spot = none := World.cell?_spot hu
      -- the slice's own address
      have hel0 := hel 0 (by omega)
      rw [List.getElem?_eq_getElem (by omega), hc] at hel0
      obtain ⟨cs0, g2, _⟩ := Option.bind_eq_some_iff.1 hel0
      obtain ⟨_, hcl0, hat0⟩ := World.cells?_some g2
      have g3 := hat0 0 hk0
      rw [List.getElem?_eq_getElem (by omega)] at g3
      have g4 : w.cell? a = some (cs0[0]'(by omega)) := by simpa [Addr.add] using g3
      have hsp : a.spot = none := World.cell?_spot g4
      have hlta := World.block_lt_of_cell? w _ g4
      refine ⟨(y, fp), ?_, hlt, hsp, hlta⟩
      refine OwC.row _ ho (fun j v hj => ?_)
      have hj' : j < k := by
        have h5 := OwC.length _ ho
        have h6 : j < cs'.length := by
          rcases Nat.lt_or_ge j cs'.length with h7 | h7
          · exact h7
          · rw [List.getElem?_eq_none h7] at hj; cases hj
        omega
      have h8 := hat j hj'
      rw [hj, Addr.flat hsp, Addr.add_flat, Addr.add_flat] at h8
      exact h8
    obtain ⟨F, hF⟩ := choose_lt (α := α × List Nat) key
    refine ⟨(List.range len).map fun i => (F i).1, _, if len = 0 then [] else a.block :: (List.range len).flatMap fun i => (F i).2, rfl, ?_, ?_⟩
    · unfold Ow
      refine ⟨by rw [flat_len f k hk], some a, cap, by simp, by simpa using hl, hm, ?_⟩
      by_cases h0 : len = 0
      · exact .inl ⟨by simpa using h0, by simp [h0]⟩
      · rw [if_neg h0]
        refine .inr ⟨by simp; omega, a.block, a.off, _, ?_, rows_of f k hk a.block (fun i => (F i).1) (fun i => (F i).2) len a.off (fun i hi => (hF i hi).1), rfl⟩
        rw [← Addr.flat (hF 0 (by omega)).2.2.1]
    · by_cases h0 : len = 0
      · rw [if_pos h0]; exact Lt.nil _
      · rw [if_neg h0]
        intro g hg
        rcases List.mem_cons.1 hg with rfl | hg
        · exact (hF 0 (by omega)).2.2.2
        · obtain ⟨i, hi, hg⟩ := List.mem_flatMap.1 hg
          exact (hF i (by simpa using hi)).2.1 g hg

theorem str_read {t : TypeId} (ht : P.underlying t = some .string) {fuel : Nat} {cs : List Value} {x : DataW H × List MemPlace} (h : DataW.trod enc P w base spare held fuel t cs = some x) :
    ∃ s, cs = [.string s] ∧ Ow w (.v (.string s)) (.string s) [] := by
  obtain ⟨s, rfl, _, hw⟩ := DataW.trod_string ht h
  exact ⟨s, rfl, by unfold Ow; exact ⟨rfl, hw, rfl⟩⟩
theorem OwC.one {d : D} {v : Value} {fp : List Nat} (h : Ow w d v fp) : OwC w [d] [v] fp := ⟨fp, [], h, rfl, by simp⟩

/-- A FIELD OF A STRUCT THAT CAME IN -/
theorem field_read {t : TypeId} {fs : Array Field} (ht : P.underlying t = some (.struct fs)) {fuel : Nat} {cs : List Value} {x : DataW H × List MemPlace} (h : DataW.trod enc P w base spare held fuel t cs = some x) :
    cs.length = P.cellsOf t ∧ ∃ n, n < fuel ∧ ∀ (i : Nat) (u : TypeId) (o : Nat), (fs[i]?).map (fun f => (f.type, f.offset)) = some (u, o) → ∃ y, DataW.trod enc P w base spare held n u ((cs.drop o).take (P.cellsOf u)) = some y := by
  obtain ⟨xs, n, rfl, _, hl, hxl, hf⟩ := DataW.trod_struct ht h
  refine ⟨hl, n, by omega, fun i u o hu => ?_⟩
  obtain ⟨f, hi, e⟩ := Option.map_eq_some_iff.1 hu
  simp only [Prod.mk.injEq] at e
  obtain ⟨rfl, rfl⟩ := e
  have hlt : i < fs.size := (Array.getElem?_eq_some_iff.1 hi).1
  rw [hf i f hi, List.getElem?_eq_getElem (by omega)]
  exact ⟨_, rfl⟩
end

theorem cellsOf_int : Tryz.prog.cellsOf 3 = 1 := by kernel_rfl
theorem cellsOf_string : Tryz.prog.cellsOf 9 = 1 := by kernel_rfl
theorem cellsOf_bool : Tryz.prog.cellsOf 4 = 1 := by kernel_rfl
theorem cellsOf_strings : Tryz.prog.cellsOf 23 = 1 := by kernel_rfl
theorem strs_read {H : Type} {enc : TypeId × Value → H} {w : World} {base : Nat} {spare : Nat → Bool} {held : Bool} {fuel : Nat} {cs : List Value} {x : DataW H × List MemPlace} (h : DataW.trod enc Tryz.prog w base spare held fuel 23 cs = some x) :
    ∃ (l : List ByteArray) (v : Value) (fp : List Nat), cs = [v] ∧ Ow w (.s 1 l.length (l.flatMap strC)) v fp ∧ Lt fp w.heap.size :=
  slice_read strC 1 strC_len (by omega) Tryz.underlying23 (by kernel_rfl) (fun n _ cs x hx => by
    obtain ⟨s, rfl, ho⟩ := str_read Tryz.underlying9 hx
    exact ⟨s, [], OwC.one ho, Lt.nil _⟩) h
end Go.Proofs.YtddjgbhkfdpffaaGreatDoor
