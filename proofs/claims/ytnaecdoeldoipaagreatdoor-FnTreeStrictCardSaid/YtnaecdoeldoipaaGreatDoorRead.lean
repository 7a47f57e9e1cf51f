/-
  From the form's reading of an argument to the words of the walks.
-/
import Derived.Test.YtnaecdoeldoipaaGreatDoorStr
set_option linter.unusedVariables false
set_option linter.unusedSimpArgs false
namespace Go.Proofs.YtnaecdoeldoipaaGreatDoor
open Go.ChangeShapes Go.WideShapes Go.ChangeAt Go.RowKit Go.Deep

section
variable {H : Type} {enc : TypeId × Value → H} {P : Program} {w : World} {base : Nat} {spare : Nat → Bool} {held : Bool}

theorem rows_of {α : Type} (f : α → List D) (k : Nat) (hk : ∀ x, (f x).length = k) (g : Nat) (A : Nat → α) (F : Nat → List Nat) : ∀ (n off : Nat),
    (∀ i, i < n → OwL w (f (A i)) g (off + i * k) (F i)) → OwL w (((List.range n).map A).flatMap f) g off ((List.range n).flatMap F)
  | 0, off, _ => by simp [OwL]
  | n + 1, off, h => by
    rw [List.range_succ, List.map_append, List.flatMap_append, List.flatMap_append]
    refine (OwL.append _ _ _ _ _).2 ⟨_, _, rows_of f k hk g A F n off (fun i hi => h i (by omega)), ?_, rfl⟩
    rw [flat_len f k hk]
    have := h n (by omega)
    simpa using this

theorem Addr.flat {a : Addr} (h : a.spot = none) : a = ⟨a.block, a.off, none⟩ := by
  cases a; simp_all
theorem Addr.add_flat (b o j : Nat) : (⟨b, o, none⟩ : Addr).add j = ⟨b, o + j, none⟩ := by unfold Addr.add; split <;> simp_all

/-- A SLICE THAT CAME IN reads as a list, where its elements do. -/
theorem slice_read {α : Type} [Inhabited α] (f : α → List D) (k : Nat) (hk : ∀ x, (f x).length = k) (hk0 : 0 < k) {t e : TypeId} (ht : P.underlying t = some (.slice e)) (hc : P.cellsOf e = k) {fuel : Nat} {cs : List Value} {x : DataW H × List MemPlace}
    (elem : ∀ n, n < fuel → ∀ cs x, DataW.trod enc P w base spare held n e cs = some x → ∃ a fp, OwC w (f a) cs fp ∧ Lt fp w.heap.size)
    (h : DataW.trod enc P w base spare held fuel t cs = some x) :
    ∃ (l : List α) (v : Value) (fp : List Nat), cs = [v] ∧ Ow w (.s k l.length (l.flatMap f)) v fp ∧ Lt fp w.heap.size := by
  rcases DataW.trod_slice ht h with ⟨rfl, _⟩ | ⟨a, len, cap, elems, rest, n, rfl, rfl, _, hb, hl, hm, hlen, hel, _, _⟩
  · refine ⟨[], _, [], rfl, ?_, Lt.nil _⟩
    unfold Ow
    exact ⟨by simp, _, _, rfl, Nat.le_refl _, by unfold maxLen; omega, .inl ⟨rfl, rfl⟩⟩
  · have key : ∀ i, i < len → ∃ y : α × List Nat, OwL w (f y.1) a.block (a.off + i * k) y.2 ∧ Lt y.2 w.heap.size ∧ a.spot = none ∧ a.block < w.heap.size := by
      intro i hi
      have h1 := hel i hi
      rw [List.getElem?_eq_getElem (by omega), hc] at h1
      obtain ⟨cs', h2, h3⟩ := Option.bind_eq_some_iff.1 h1
      obtain ⟨y, fp, ho, hlt⟩ := elem n (by omega) cs' _ h3
      obtain ⟨_, hcl, hat⟩ := World.cells?_some h2
      have h00 : ∃ u, w.cell? (a.add (i * k)) = some u := by
        have := hat 0 hk0
        rw [List.getElem?_eq_getElem (by omega)] at this
        exact ⟨_, by simpa [Addr.add] using this⟩
      obtain ⟨u, hu⟩ := h00
      have hlt0 := World.block_lt_of_cell? w _ hu
      have hspot : (a.add (i * k)).spot = none := World.cell?_spot hu
      -- the slice's own address
      have hel0 := hel 0 (by omega)
      rw [List.getElem?_eq_getElem (by omega), hc] at hel0
      obtain ⟨cs0, g2, _⟩ := Option.bind_eq_some_iff.1 hel0
      obtain ⟨_, hcl0, hat0⟩ := World.cells?_some g2
      have g3 := hat0 0 hk0
      rw [List.getElem?_eq_getElem (by omega)] at g3
      have g4 : w.cell? a = some (cs0[0]'(by omega)) := by simpa [Addr.add] using g3
      have hsp : a.spot = none := World.cell?_spot g4
      have hlta := World.block_lt_of_cell? w _ g4
      refine ⟨(y, fp), ?_, hlt, hsp, hlta⟩
      refine OwC.row _ ho (fun j v hj => ?_)
      have hj' : j < k := by
        have h5 := OwC.length _ ho
        have h6 : j < cs'.length := by
          rcases Nat.lt_or_ge j cs'.length with h7 | h7
          · exact h7
          · rw [List.getElem?_eq_none h7] at hj; cases hj
        omega
      have h8 := hat j hj'
      rw [hj, Addr.flat hsp, Addr.add_flat, Addr.add_flat] at h8
      exact h8
    obtain ⟨F, hF⟩ := choose_lt (α := α × List Nat) key
    refine ⟨(List.range len).map fun i => (F i).1, _, if len = 0 then [] else a.block :: (List.range len).flatMap fun i => (F i).2, rfl, ?_, ?_⟩
    · unfold Ow
      refine ⟨by rw [flat_len f k hk], some a, cap, by simp, by simpa using hl, hm, ?_⟩
      by_cases h0 : len = 0
      · exact .inl ⟨by simpa using h0, by simp [h0]⟩
      · rw [if_neg h0]
        refine .inr ⟨by simp; omega, a.block, a.off, _, ?_, rows_of f k hk a.block (fun i => (F i).1) (fun i => (F i).2) len a.off (fun i hi => (hF i hi).1), rfl⟩
        rw [← Addr.flat (hF 0 (by omega)).2.2.1]
    · by_cases h0 : len = 0
      · rw [if_pos h0]; exact Lt.nil _
      · rw [if_neg h0]
        intro g hg
        rcases List.mem_cons.1 hg with rfl | hg
        · exact (hF 0 (by omega)).2.2.2
        · obtain ⟨i, hi, hg⟩ := List.mem_flatMap.1 hg
          exact (hF i (by simpa using hi)).2.1 g hg

theorem int_read {k : IntKind} {t : TypeId} (ht : P.underlying t = some (.int k)) {fuel : Nat} {cs : List Value} {x : DataW H × List MemPlace} (h : DataW.trod enc P w base spare held fuel t cs = some x) :
    ∃ n, cs = [.int k n] ∧ Ow w (.v (.int k n)) (.int k n) [] := by
  obtain ⟨n, rfl, _, hw⟩ := DataW.trod_int ht h
  exact ⟨n, rfl, by unfold Ow; exact ⟨rfl, hw, rfl⟩⟩
theorem str_read {t : TypeId} (ht : P.underlying t = some .string) {fuel : Nat} {cs : List Value} {x : DataW H × List MemPlace} (h : DataW.trod enc P w base spare held fuel t cs = some x) :
    ∃ s, cs = [.string s] ∧ Ow w (.v (.string s)) (.string s) [] := by
  obtain ⟨s, rfl, _, hw⟩ := DataW.trod_string ht h
  exact ⟨s, rfl, by unfold Ow; exact ⟨rfl, hw, rfl⟩⟩
theorem bool_read {t : TypeId} (ht : P.underlying t = some .bool) {fuel : Nat} {cs : List Value} {x : DataW H × List MemPlace} (h : DataW.trod enc P w base spare held fuel t cs = some x) :
    ∃ b, cs = [.bool b] ∧ Ow w (.v (.bool b)) (.bool b) [] := by
  obtain ⟨b, rfl, _⟩ := DataW.trod_bool ht h
  exact ⟨b, rfl, by unfold Ow; exact ⟨rfl, trivial, rfl⟩⟩

theorem OwC.one {d : D} {v : Value} {fp : List Nat} (h : Ow w d v fp) : OwC w [d] [v] fp := ⟨fp, [], h, rfl, by simp⟩

/-- A FIELD OF A STRUCT THAT CAME IN -/
theorem field_read {t : TypeId} {fs : Array Field} (ht : P.underlying t = some (.struct fs)) {fuel : Nat} {cs : List Value} {x : DataW H × List MemPlace} (h : DataW.trod enc P w base spare held fuel t cs = some x) :
    cs.length = P.cellsOf t ∧ ∃ n, n < fuel ∧ ∀ (i : Nat) (u : TypeId) (o : Nat), (fs[i]?).map (fun f => (f.type, f.offset)) = some (u, o) → ∃ y, DataW.trod enc P w base spare held n u ((cs.drop o).take (P.cellsOf u)) = some y := by
  obtain ⟨xs, n, rfl, _, hl, hxl, hf⟩ := DataW.trod_struct ht h
  refine ⟨hl, n, by omega, fun i u o hu => ?_⟩
  obtain ⟨f, hi, e⟩ := Option.map_eq_some_iff.1 hu
  simp only [Prod.mk.injEq] at e
  obtain ⟨rfl, rfl⟩ := e
  have hlt : i < fs.size := (Array.getElem?_eq_some_iff.1 hi).1
  rw [hf i f hi, List.getElem?_eq_getElem (by omega)]
  exact ⟨_, rfl⟩
end

theorem cellsOf_int : Tryz.prog.cellsOf 3 = 1 := by kernel_rfl
theorem cellsOf_string : Tryz.prog.cellsOf 9 = 1 := by kernel_rfl
theorem cellsOf_bool : Tryz.prog.cellsOf 4 = 1 := by kernel_rfl
theorem cellsOf_strings : Tryz.prog.cellsOf 23 = 1 := by kernel_rfl
theorem strs_read {H : Type} {enc : TypeId × Value → H} {w : World} {base : Nat} {spare : Nat → Bool} {held : Bool} {fuel : Nat} {cs : List Value} {x : DataW H × List MemPlace} (h : DataW.trod enc Tryz.prog w base spare held fuel 23 cs = some x) :
    ∃ (l : List ByteArray) (v : Value) (fp : List Nat), cs = [v] ∧ Ow w (.s 1 l.length (l.flatMap strC)) v fp ∧ Lt fp w.heap.size :=
  slice_read strC 1 strC_len (by omega) Tryz.underlying23 (by kernel_rfl) (fun n _ cs x hx => by
    obtain ⟨s, rfl, ho⟩ := str_read Tryz.underlying9 hx
    exact ⟨s, [], OwC.one ho, Lt.nil _⟩) h
theorem cellsOf_ints : Tryz.prog.cellsOf 117 = 1 := by kernel_rfl
theorem ints_read {H : Type} {enc : TypeId × Value → H} {w : World} {base : Nat} {spare : Nat → Bool} {held : Bool} {fuel : Nat} {cs : List Value} {x : DataW H × List MemPlace} (h : DataW.trod enc Tryz.prog w base spare held fuel 117 cs = some x) :
    ∃ (l : List Int) (v : Value) (fp : List Nat), cs = [v] ∧ Ow w (.s 1 l.length (l.flatMap intC)) v fp ∧ Lt fp w.heap.size :=
  slice_read intC 1 intC_len (by omega) Tryz.underlying117 (by kernel_rfl) (fun n _ cs x hx => by
    obtain ⟨s, rfl, ho⟩ := int_read Tryz.underlying3 hx
    exact ⟨s, [], OwC.one ho, Lt.nil _⟩) h
theorem cellsOf_bytes : Tryz.prog.cellsOf 22 = 1 := by kernel_rfl
theorem bytes_read {H : Type} {enc : TypeId × Value → H} {w : World} {base : Nat} {spare : Nat → Bool} {held : Bool} {fuel : Nat} {cs : List Value} {x : DataW H × List MemPlace} (h : DataW.trod enc Tryz.prog w base spare held fuel 22 cs = some x) :
    ∃ (l : List UInt8) (v : Value) (fp : List Nat), cs = [v] ∧ Ow w (.s 1 l.length (l.flatMap byteC)) v fp ∧ Lt fp w.heap.size :=
  slice_read byteC 1 byteC_len (by omega) Tryz.underlying22 (by kernel_rfl) (fun n _ cs x hx => by
    obtain ⟨s, rfl, ho⟩ := int_read Tryz.underlying5 hx
    have hw := ho
    unfold Ow at hw
    have hb : 0 ≤ s ∧ s ≤ 255 := by simpa [okAtom, Lit.wf, IntKind.min, IntKind.max, IntKind.signed, IntKind.bits] using hw.2.1
    refine ⟨UInt8.ofNat s.toNat, [], ?_, Lt.nil _⟩
    have e : ((UInt8.ofNat s.toNat).toNat : Int) = s := by rw [UInt8.toNat_ofNat']; omega
    unfold byteC
    rw [e]
    exact OwC.one ho) h
end Go.Proofs.YtnaecdoeldoipaaGreatDoor
