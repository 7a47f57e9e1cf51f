/-
  Names: the program's isName, areNames and the reference's l6NameOk, l1Rise answer alike. CrewMove as data: its cells, its size. Jobs of a crew: when they are ok, and what they tell: plain definitions. From the form's reading of an argument to the words of the walks.
-/
import Derived.Test.YtpkjjfnfolbcoaaQStr
import Derived.Test.YtpkjjfnfolbcoaaQDCrewJob
set_option linter.unusedVariables false
set_option linter.unusedSimpArgs false
namespace Go.Proofs.Ytpkjjfnfolbcoaa
open Go.ChangeShapes Go.WideShapes Go.ChangeAt Go.RowKit

/-- A proposition as a Bool. -/
noncomputable def tb (p : Prop) : Bool := @decide p (Classical.propDecidable p)
theorem tb_true {p : Prop} (h : p) : tb p = true := by simp [tb, h]
theorem tb_false {p : Prop} (h : ¬ p) : tb p = false := by simp [tb, h]

theorem inRange_any (n lo hi : Int) (w : World) :
    Calls Try.prog 68 #[.int .i64 n, .int .i64 lo, .int .i64 hi] w fun e w' => e = .returned (.bool (tb (lo ≤ n ∧ n ≤ hi))) ∧ w = w' := by
  by_cases h1 : lo ≤ n
  · by_cases h2 : n ≤ hi
    · go_enter Try.func68, Try.ntmps68
      go_wp2
      go_ret
      exact ⟨ret_bool (by rw [tb_true ⟨h1, h2⟩]), rfl⟩
    · go_enter Try.func68, Try.ntmps68
      go_wp2
      go_ret
      exact ⟨ret_bool (by rw [tb_false (by omega)]), rfl⟩
  · go_enter Try.func68, Try.ntmps68
    go_wp2
    go_ret
    exact ⟨ret_bool (by rw [tb_false (by omega)]), rfl⟩

theorem l6In_any (n lo hi : Int) (w : World) :
    Calls Try.prog 67 #[.int .i64 n, .int .i64 lo, .int .i64 hi] w fun e w' => e = .returned (.bool (tb (lo ≤ n ∧ n ≤ hi))) ∧ w = w' := by
  by_cases h1 : lo ≤ n
  · by_cases h2 : n ≤ hi
    · go_enter Try.func67, Try.ntmps67
      go_wp2
      go_ret
      exact ⟨ret_bool (by rw [tb_true ⟨h1, h2⟩]), rfl⟩
    · go_enter Try.func67, Try.ntmps67
      go_wp2
      go_ret
      exact ⟨ret_bool (by rw [tb_false (by omega)]), rfl⟩
  · go_enter Try.func67, Try.ntmps67
    go_wp2
    go_ret
    exact ⟨ret_bool (by rw [tb_false (by omega)]), rfl⟩

end Go.Proofs.Ytpkjjfnfolbcoaa
set_option linter.unusedVariables false
set_option linter.unusedSimpArgs false
namespace Go.Proofs.Ytpkjjfnfolbcoaa
open Go.ChangeShapes Go.WideShapes Go.ChangeAt Go.RowKit

structure CrewMove where
  who : Int
  case_ : Int
def CrewMove.cells (x : CrewMove) : List D := [.v (.int .i64 x.who), .v (.int .i64 x.case_)]
theorem CrewMove.cells_eq (x : CrewMove) : x.cells = [.v (.int .i64 x.who), .v (.int .i64 x.case_)] := rfl
theorem CrewMove.cells_len (x : CrewMove) : x.cells.length = 2 := by rw [CrewMove.cells_eq]; rfl
def CrewMove.bulkL (l : List CrewMove) : Nat := l.length
theorem CrewMove.cells_snoc (l : List CrewMove) (k : Nat) (h : k < l.length) : (l.take (k + 1)).flatMap CrewMove.cells = (l.take k).flatMap CrewMove.cells ++ l[k].cells := by
  rw [List.take_succ_eq_append_getElem h, List.flatMap_append]
  simp
theorem OwC.oCrewMove {w : World} {x : CrewMove} {us : List Value} {fp : List Nat} (h : OwC w x.cells us fp) :
    us = [.int .i64 x.who, .int .i64 x.case_] ∧ (Lit.int .i64 x.who).wf = true ∧ (Lit.int .i64 x.case_).wf = true ∧ fp = [] := by
  rw [CrewMove.cells_eq] at h
  match us, OwC.length _ h with
  | [u0, u1], _ =>
    simp only [OwC] at h
    obtain ⟨g0, _, h0, ⟨g1, _, h1, rfl, rfl⟩, rfl⟩ := h
    simp only [Ow, okAtom] at h0
    obtain ⟨rfl, w0, rfl⟩ := h0
    simp only [Ow, okAtom] at h1
    obtain ⟨rfl, w1, rfl⟩ := h1
    exact ⟨rfl, w0, w1, by simp⟩
end Go.Proofs.Ytpkjjfnfolbcoaa
set_option linter.unusedVariables false
set_option linter.unusedSimpArgs false
namespace Go.Proofs.Ytpkjjfnfolbcoaa
open Go.ChangeShapes Go.WideShapes Go.ChangeAt Go.RowKit

def CrewJob.fine (x : CrewJob) : Prop := 0 ≤ x.bad ∧ x.items.length ≤ 40
def jobsOk (l : List CrewJob) : Prop := l.length ≤ 60 ∧ ∀ i (h : i < l.length), l[i].fine
def CrewJob.told (x : CrewJob) : List Int := if x.bad = 0 then x.items else []
def toldItems (l : List CrewJob) : List Int := l.flatMap CrewJob.told
def toldDeadP (p : CrewJob × Nat) : List CrewDead := if p.1.bad = 0 then [] else [⟨(p.2 : Int), p.1.bad⟩]
def toldDead (l : List CrewJob) : List CrewDead := l.zipIdx.flatMap toldDeadP
def toldOf (l : List CrewJob) : CrewTold := ⟨true, toldItems l, toldDead l, (l.length : Int), 0, 0⟩
def CrewTold.none_ : CrewTold := ⟨false, [], [], 0, 0, 0⟩
noncomputable def serialOf (l : List CrewJob) : CrewTold := if tb (jobsOk l) = true then toldOf l else CrewTold.none_

theorem toldItems_snoc (l : List CrewJob) (k : Nat) (h : k < l.length) : toldItems (l.take (k + 1)) = toldItems (l.take k) ++ l[k].told := by
  unfold toldItems
  rw [List.take_succ_eq_append_getElem h, List.flatMap_append]
  simp
theorem toldDead_snoc (l : List CrewJob) (k : Nat) (h : k < l.length) : toldDead (l.take (k + 1)) = toldDead (l.take k) ++ toldDeadP (l[k], k) := by
  unfold toldDead
  rw [List.take_succ_eq_append_getElem h, List.zipIdx_append, List.flatMap_append]
  simp [List.length_take, Nat.min_eq_left (Nat.le_of_lt h)]
theorem told_zero {x : CrewJob} (h : x.bad = 0) : x.told = x.items := by simp [CrewJob.told, h]
theorem told_bad {x : CrewJob} (h : x.bad ≠ 0) : x.told = [] := by simp [CrewJob.told, h]
theorem deadP_zero {x : CrewJob} {k : Nat} (h : x.bad = 0) : toldDeadP (x, k) = [] := by simp [toldDeadP, h]
theorem deadP_bad {x : CrewJob} {k : Nat} (h : x.bad ≠ 0) : toldDeadP (x, k) = [⟨(k : Int), x.bad⟩] := by simp [toldDeadP, h]
theorem toldItems_len {l : List CrewJob} (h : jobsOk l) (k : Nat) (hk : k ≤ l.length) : (toldItems (l.take k)).length ≤ 40 * k := by
  induction k with
  | zero => simp [toldItems]
  | succ k ih =>
    have hl : k < l.length := by omega
    rw [toldItems_snoc l k hl, List.length_append]
    have h1 := ih (by omega)
    have h2 : (l[k].told).length ≤ 40 := by
      unfold CrewJob.told
      split
      · exact (h.2 k hl).2
      · simp
    omega
theorem toldDead_len (l : List CrewJob) (k : Nat) (hk : k ≤ l.length) : (toldDead (l.take k)).length ≤ k := by
  induction k with
  | zero => simp [toldDead]
  | succ k ih =>
    have hl : k < l.length := by omega
    rw [toldDead_snoc l k hl, List.length_append]
    have h1 := ih (by omega)
    have h2 : (toldDeadP (l[k], k)).length ≤ 1 := by unfold toldDeadP; split <;> simp
    omega
theorem fine_step (l : List CrewJob) (k : Nat) (hk : k < l.length) (ha : ∀ j (h : j < l.length), j < k → l[j].fine) (hn : l[k].fine) : ∀ j (h : j < l.length), j < k + 1 → l[j].fine := fun j h hj => by
  by_cases e : j < k
  · exact ha j h e
  · obtain rfl : j = k := by omega
    exact hn
end Go.Proofs.Ytpkjjfnfolbcoaa
set_option linter.unusedVariables false
set_option linter.unusedSimpArgs false
namespace Go.Proofs.Ytpkjjfnfolbcoaa
open Go.ChangeShapes Go.WideShapes Go.ChangeAt Go.RowKit Go.Deep

section
variable {H : Type} {enc : TypeId × Value → H} {P : Program} {w : World} {base : Nat} {spare : Nat → Bool} {held : Bool}

theorem rows_of {α : Type} (f : α → List D) (k : Nat) (hk : ∀ x, (f x).length = k) (g : Nat) (A : Nat → α) (F : Nat → List Nat) : ∀ (n off : Nat),
    (∀ i, i < n → OwL w (f (A i)) g (off + i * k) (F i)) → OwL w (((List.range n).map A).flatMap f) g off ((List.range n).flatMap F)
  | 0, off, _ => by simp [OwL]
  | n + 1, off, h => by
    rw [List.range_succ, List.map_append, List.flatMap_append, List.flatMap_append]
    refine (OwL.append _ _ _ _ _).2 ⟨_, _, rows_of f k hk g A F n off (fun i hi => h i (by omega)), ?_, rfl⟩
    rw [flat_len f k hk]
    have := h n (by omega)
    simpa using this

theorem Addr.flat {a : Addr} (h : a.spot = none) : a = ⟨a.block, a.off, none⟩ := by
  cases a; simp_all
theorem Addr.add_flat (b o j : Nat) : (⟨b, o, none⟩ : Addr).add j = ⟨b, o + j, none⟩ := by unfold Addr.add; split <;> simp_all

/-- A SLICE THAT CAME IN reads as a list, where its elements do. -/
theorem slice_read {α : Type} [Inhabited α] (f : α → List D) (k : Nat) (hk : ∀ x, (f x).length = k) (hk0 : 0 < k) {t e : TypeId} (ht : P.underlying t = some (.slice e)) (hc : P.cellsOf e = k) {fuel : Nat} {cs : List Value} {x : DataW H × List MemPlace}
    (elem : ∀ n, n < fuel → ∀ cs x, DataW.trod enc P w base spare held n e cs = some x → ∃ a fp, OwC w (f a) cs fp ∧ Lt fp w.heap.size)
    (h : DataW.trod enc P w base spare held fuel t cs = some x) :
    ∃ (l : List α) (v : Value) (fp : List Nat), cs = [v] ∧ Ow w (.s k l.length (l.flatMap f)) v fp ∧ Lt fp w.heap.size := by
  rcases DataW.trod_slice ht h with ⟨rfl, _⟩ | ⟨a, len, cap, elems, rest, n, rfl, rfl, _, hb, hl, hm, hlen, hel, _, _⟩
  · refine ⟨[], _, [], rfl, ?_, Lt.nil _⟩
    unfold Ow
    exact ⟨by simp, _, _, rfl, Nat.le_refl _, by unfold maxLen; omega, .inl ⟨rfl, rfl⟩⟩
  · have key : ∀ i, i < len → ∃ y : α × List Nat, OwL w (f y.1) a.block (a.off + i * k) y.2 ∧ Lt y.2 w.heap.size ∧ a.spot = none ∧ a.block < w.heap.size := by
      intro i hi
      have h1 := hel i hi
      rw [List.getElem?_eq_getElem (by omega), hc] at h1
      obtain ⟨cs', h2, h3⟩ := Option.bind_eq_some_iff.1 h1
      obtain ⟨y, fp, ho, hlt⟩ := elem n (by omega) cs' _ h3
      obtain ⟨_, hcl, hat⟩ := World.cells?_some h2
      have h00 : ∃ u, w.cell? (a.add (i * k)) = some u := by
        have := hat 0 hk0
        rw [List.getElem?_eq_getElem (by omega)] at this
        exact ⟨_, by simpa [Addr.add] using this⟩
      obtain ⟨u, hu⟩ := h00
      have hlt0 := World.block_lt_of_cell? w _ hu
      have hspot : (a.add (i * k)).spot = none := World.cell?_spot hu
      -- the slice's own address
      have hel0 := hel 0 (by omega)
      rw [List.getElem?_eq_getElem (by omega), hc] at hel0
      obtain ⟨cs0, g2, _⟩ := Option.bind_eq_some_iff.1 hel0
      obtain ⟨_, hcl0, hat0⟩ := World.cells?_some g2
      have g3 := hat0 0 hk0
      rw [List.getElem?_eq_getElem (by omega)] at g3
      have g4 : w.cell? a = some (cs0[0]'(by omega)) := by simpa [Addr.add] using g3
      have hsp : a.spot = none := World.cell?_spot g4
      have hlta := World.block_lt_of_cell? w _ g4
      refine ⟨(y, fp), ?_, hlt, hsp, hlta⟩
      refine OwC.row _ ho (fun j v hj => ?_)
      have hj' : j < k := by
        have h5 := OwC.length _ ho
        have h6 : j < cs'.length := by
          rcases Nat.lt_or_ge j cs'.length with h7 | h7
          · exact h7
          · rw [List.getElem?_eq_none h7] at hj; cases hj
        omega
      have h8 := hat j hj'
      rw [hj, Addr.flat hsp, Addr.add_flat, Addr.add_flat] at h8
      exact h8
    obtain ⟨F, hF⟩ := choose_lt (α := α × List Nat) key
    refine ⟨(List.range len).map fun i => (F i).1, _, if len = 0 then [] else a.block :: (List.range len).flatMap fun i => (F i).2, rfl, ?_, ?_⟩
    · unfold Ow
      refine ⟨by rw [flat_len f k hk], some a, cap, by simp, by simpa using hl, hm, ?_⟩
      by_cases h0 : len = 0
      · exact .inl ⟨by simpa using h0, by simp [h0]⟩
      · rw [if_neg h0]
        refine .inr ⟨by simp; omega, a.block, a.off, _, ?_, rows_of f k hk a.block (fun i => (F i).1) (fun i => (F i).2) len a.off (fun i hi => (hF i hi).1), rfl⟩
        rw [← Addr.flat (hF 0 (by omega)).2.2.1]
    · by_cases h0 : len = 0
      · rw [if_pos h0]; exact Lt.nil _
      · rw [if_neg h0]
        intro g hg
        rcases List.mem_cons.1 hg with rfl | hg
        · exact (hF 0 (by omega)).2.2.2
        · obtain ⟨i, hi, hg⟩ := List.mem_flatMap.1 hg
          exact (hF i (by simpa using hi)).2.1 g hg

theorem int_read {k : IntKind} {t : TypeId} (ht : P.underlying t = some (.int k)) {fuel : Nat} {cs : List Value} {x : DataW H × List MemPlace} (h : DataW.trod enc P w base spare held fuel t cs = some x) :
    ∃ n, cs = [.int k n] ∧ Ow w (.v (.int k n)) (.int k n) [] := by
  obtain ⟨n, rfl, _, hw⟩ := DataW.trod_int ht h
  exact ⟨n, rfl, by unfold Ow; exact ⟨rfl, hw, rfl⟩⟩
theorem OwC.one {d : D} {v : Value} {fp : List Nat} (h : Ow w d v fp) : OwC w [d] [v] fp := ⟨fp, [], h, rfl, by simp⟩

/-- A FIELD OF A STRUCT THAT CAME IN -/
theorem field_read {t : TypeId} {fs : Array Field} (ht : P.underlying t = some (.struct fs)) {fuel : Nat} {cs : List Value} {x : DataW H × List MemPlace} (h : DataW.trod enc P w base spare held fuel t cs = some x) :
    cs.length = P.cellsOf t ∧ ∃ n, n < fuel ∧ ∀ (i : Nat) (u : TypeId) (o : Nat), (fs[i]?).map (fun f => (f.type, f.offset)) = some (u, o) → ∃ y, DataW.trod enc P w base spare held n u ((cs.drop o).take (P.cellsOf u)) = some y := by
  obtain ⟨xs, n, rfl, _, hl, hxl, hf⟩ := DataW.trod_struct ht h
  refine ⟨hl, n, by omega, fun i u o hu => ?_⟩
  obtain ⟨f, hi, e⟩ := Option.map_eq_some_iff.1 hu
  simp only [Prod.mk.injEq] at e
  obtain ⟨rfl, rfl⟩ := e
  have hlt : i < fs.size := (Array.getElem?_eq_some_iff.1 hi).1
  rw [hf i f hi, List.getElem?_eq_getElem (by omega)]
  exact ⟨_, rfl⟩
end

theorem cellsOf_int : Try.prog.cellsOf 3 = 1 := by kernel_rfl
theorem cellsOf_ints : Try.prog.cellsOf 22 = 1 := by kernel_rfl
theorem ints_read {H : Type} {enc : TypeId × Value → H} {w : World} {base : Nat} {spare : Nat → Bool} {held : Bool} {fuel : Nat} {cs : List Value} {x : DataW H × List MemPlace} (h : DataW.trod enc Try.prog w base spare held fuel 22 cs = some x) :
    ∃ (l : List Int) (v : Value) (fp : List Nat), cs = [v] ∧ Ow w (.s 1 l.length (l.flatMap intC)) v fp ∧ Lt fp w.heap.size :=
  slice_read intC 1 intC_len (by omega) Try.underlying22 (by kernel_rfl) (fun n _ cs x hx => by
    obtain ⟨s, rfl, ho⟩ := int_read Try.underlying3 hx
    exact ⟨s, [], OwC.one ho, Lt.nil _⟩) h
theorem bytes_read {H : Type} {enc : TypeId × Value → H} {w : World} {base : Nat} {spare : Nat → Bool} {held : Bool} {fuel : Nat} {cs : List Value} {x : DataW H × List MemPlace} (h : DataW.trod enc Try.prog w base spare held fuel 35 cs = some x) :
    ∃ (l : List UInt8) (v : Value) (fp : List Nat), cs = [v] ∧ Ow w (.s 1 l.length (l.flatMap byteC)) v fp ∧ Lt fp w.heap.size :=
  slice_read byteC 1 byteC_len (by omega) Try.underlying35 (by kernel_rfl) (fun n _ cs x hx => by
    obtain ⟨s, rfl, ho⟩ := int_read Try.underlying5 hx
    have hw := ho
    unfold Ow at hw
    have hb : 0 ≤ s ∧ s ≤ 255 := by simpa [okAtom, Lit.wf, IntKind.min, IntKind.max, IntKind.signed, IntKind.bits] using hw.2.1
    refine ⟨UInt8.ofNat s.toNat, [], ?_, Lt.nil _⟩
    have e : ((UInt8.ofNat s.toNat).toNat : Int) = s := by rw [UInt8.toNat_ofNat']; omega
    unfold byteC
    rw [e]
    exact OwC.one ho) h
end Go.Proofs.Ytpkjjfnfolbcoaa
