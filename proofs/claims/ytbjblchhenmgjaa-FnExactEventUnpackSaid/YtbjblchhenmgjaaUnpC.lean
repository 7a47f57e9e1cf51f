/-
  What a reader of events has found: plain laws of the three parts.
-/
import Derived.Test.YtbjblchhenmgjaaRdrTS
import Derived.Test.YtbjblchhenmgjaaRdrTI
import Derived.Test.YtbjblchhenmgjaaSame
import Derived.Test.YtbjblchhenmgjaaNEvent
set_option linter.unusedVariables false
set_option linter.unusedSimpArgs false
namespace Go.Proofs.Ytbjblchhenmgjaa
open Go.ChangeShapes Go.WideShapes Go.ChangeAt Go.RowKit

theorem Row.atU (w : World) (e : TypeId) (cs : List Value) (g : Nat) (h : w.heap.size = g) : Row (w.alloc (.cells cs.toArray e)) g e cs := h ▸ Row.new w e cs
theorem okr_event {strict b1 b2 b3 : Bool} {l l1 l2 l3 : List UInt8} {s : ByteArray} {v : Int} {t : Tree} (h1 : Okr false b1 (pShort l) s l1) (h2 : Okr b1 b2 (pOne l1) v l2) (h3 : Okr b2 b3 (pTree strict 6 l2) t l3) :
    Okr false b3 (pEvent strict l) ⟨s, v, t⟩ l3 := by
  have n1 : b1 = true → pEvent strict l = none := fun hb => by
    rcases h1.2 hb with h | h
    · cases h
    · simp only [pEvent, h]
  have n2 : b2 = true → pEvent strict l = none := fun hb => by
    cases hb1 : b1
    · rcases h2.2 hb with h | h
      · rw [hb1] at h; cases h
      · simp only [pEvent, (h1.1 hb1).2, h]
    · exact n1 hb1
  have n3 : b3 = true → pEvent strict l = none := fun hb => by
    cases hb2 : b2
    · have e2 := h2.1 hb2
      have e1 := h1.1 e2.1
      rcases h3.2 hb with h | h
      · rw [hb2] at h; cases h
      · simp only [pEvent, e1.2, e2.2, h, Option.map_none]
    · exact n2 hb2
  refine ⟨fun hb => ⟨rfl, ?_⟩, fun hb => .inr (n3 hb)⟩
  have e3 := h3.1 hb
  have e2 := h2.1 e3.1
  have e1 := h1.1 e2.1
  simp only [pEvent, e1.2, e2.2, e3.2, Option.map_some]
theorem unpack_gone {strict b3 : Bool} {l l3 : List UInt8} {x : Event} (h : Okr false b3 (pEvent strict l) x l3) (hb : b3 = true ∨ l3 ≠ []) : unpackE l = Event.none_ ∧ unpackB l = false := by
  refine unpack_bad (strict := strict) (fun y e => ?_)
  cases b3
  · have := (h.1 rfl).2
    rw [e] at this
    simp only [Option.some.injEq, Prod.mk.injEq] at this
    rcases hb with hb | hb
    · cases hb
    · exact hb this.2.symm
  · rcases h.2 rfl with h | h
    · cases h
    · rw [h] at e; cases e
theorem unpack_left {strict : Bool} {l : List UInt8} {x : Event} (h : Okr false false (pEvent strict l) x []) (hn : ¬ (x.ok ∧ x.bytes = l)) : unpackE l = Event.none_ ∧ unpackB l = false :=
  unpack_other (h.1 rfl).2 (fun hf => hn ⟨hf.1, hf.2.1⟩)
theorem unpack_back {l : List UInt8} {x : Event} (hl : l.length ≤ 9000) (h1 : x.ok) (h2 : x.bytes = l) : unpackE l = x ∧ unpackB l = true := unpack_yes ⟨h1, h2, hl⟩
theorem unpack_long {l : List UInt8} (hl : 9000 < l.length) : unpackE l = Event.none_ ∧ unpackB l = false := unpack_no (fun x hx => by have := hx.2.2; omega)
theorem okr_bulk {strict : Bool} {l : List UInt8} {x : Event} (h : Okr false false (pEvent strict l) x []) : x.bulk ≤ l.length := pEvent_bulk (h.1 rfl).2
theorem none_ow (W : World) : OwC W Event.none_.cells [.string .empty, .int .i64 0, .int .i64 0, .int .i64 0, .string .empty, .slice none 0 0, .slice none 0 0] [] := by
  exact OwC.mEvent (x := Event.none_) (v1 := .slice none 0 0) (v2 := .slice none 0 0) (f1 := []) (f2 := []) empty_le wfz wfz wfz empty_le (Ow.nil_ W 1 strC) (Ow.nil_ W 5 Tree.cells)
/-- what the result's block and the event's block are, behind the readers -/
structure UnpAt (w W : World) (b1 : Nat) (x : Event) (us : List Value) (fq : List Nat) : Prop where
  zero : Row W w.heap.size 28 [.string .empty, .int .i64 0, .int .i64 0, .int .i64 0, .string .empty, .slice none 0 0, .slice none 0 0]
  box : Row W b1 28 us
  ow : OwC W x.cells us fq
  new : New W fq (w.heap.size + 1)
  below : Below w.heap.size w W
theorem UnpAt.step {w W W' : World} {b1 : Nat} {x : Event} {us : List Value} {fq : List Nat} (h : UnpAt w W b1 x us fq) (hb : Below W.heap.size W W') : UnpAt w W' b1 x us fq :=
  ⟨h.zero.below hb h.zero.lt, h.box.below hb h.box.lt, h.ow.below hb h.new.lt, h.new.below hb h.new.lt, h.below.trans (hb.mono h.below.size)⟩
/-- the result's block is filled -/
theorem UnpAt.fin {w W : World} {b1 : Nat} {x : Event} {us : List Value} {fq : List Nat} (h : UnpAt w W b1 x us fq) (vs : List Value) :
    OwC (putN W w.heap.size 0 vs) x.cells us fq ∧ New (putN W w.heap.size 0 vs) fq w.heap.size ∧ Below w.heap.size w (putN W w.heap.size 0 vs) := by
  have hgr := setN_grown vs 0 (grown_refl W (some w.heap.size))
  have hno : w.heap.size ∉ fq := h.new.out (Nat.lt_succ_self _)
  exact ⟨h.ow.grown hgr h.new.lt hno, (h.new.grown hgr (fun b e => by injection e with e; subst e; exact hno)).mono (by omega), h.below.trans (below_of_grown hgr (Nat.le_refl _) h.below.size)⟩
theorem unp_none {w W : World} (h : Below w.heap.size w W) (vs : List Value) :
    OwC (putN W w.heap.size 0 vs) Event.none_.cells [.string .empty, .int .i64 0, .int .i64 0, .int .i64 0, .string .empty, .slice none 0 0, .slice none 0 0] [] ∧ New (putN W w.heap.size 0 vs) [] w.heap.size ∧ Below w.heap.size w (putN W w.heap.size 0 vs) :=
  ⟨none_ow _, New.nil _ _, h.trans (below_of_grown (setN_grown vs 0 (grown_refl W (some w.heap.size))) (Nat.le_refl _) h.size)⟩
def UnpOut (l : List UInt8) (w : World) (e : Ending) (w' : World) : Prop :=
  ∃ us fq, e = .returned (.tuple #[.agg us.toArray, .bool (unpackB l)]) ∧ OwC w' (unpackE l).cells us fq ∧ New w' fq w.heap.size ∧ Below w.heap.size w w'
/-- the event's own cells -/
theorem UnpAt.make {w W : World} {b1 : Nat} {s : ByteArray} {v : Int} {t : Tree} {u0 u1 u2 u3 u4 : Value} {fq : List Nat} (ho : OwC W t.cells [u0, u1, u2, u3, u4] fq) (hn : New W fq (b1 + 1)) (hw : w.heap.size < b1) (hs : s.size ≤ maxLen) (hv : (Lit.int .i64 v).wf = true)
    (hz : Row W w.heap.size 28 [.string .empty, .int .i64 0, .int .i64 0, .int .i64 0, .string .empty, .slice none 0 0, .slice none 0 0])
    (hB : Row W b1 28 [.string s, .int .i64 v, .int .i64 0, .int .i64 0, .string .empty, .slice none 0 0, .slice none 0 0]) (hb : Below w.heap.size w W) :
    UnpAt w (putN W b1 2 [u0, u1, u2, u3, u4]) b1 ⟨s, v, t⟩ [.string s, .int .i64 v, u0, u1, u2, u3, u4] fq := by
  obtain ⟨A1, c1, A2, c2, f1, f2, e, w0, w1, w2, o1, o2, rfl⟩ := ho.oTree
  simp only [List.cons.injEq, and_true] at e
  obtain ⟨rfl, rfl, rfl, rfl, rfl⟩ := e
  have hx : OwC W (Event.mk s v t).cells [.string s, .int .i64 v, .int .i64 t.sort, .int .i64 t.num, .string t.text, .slice A1 t.names.length c1, .slice A2 t.kids.length c2] (f1 ++ f2) :=
    OwC.mEvent (x := ⟨s, v, t⟩) hs hv w0 w1 w2 o1 o2
  have hgr := setN_grown [.int .i64 t.sort, .int .i64 t.num, .string t.text, .slice A1 t.names.length c1, .slice A2 t.kids.length c2] 2 (grown_refl W (some b1))
  have hno : b1 ∉ f1 ++ f2 := hn.out (Nat.lt_succ_self _)
  have hbb := hB.lt
  exact ⟨hz.grown hgr (fun e => by injection e with e; omega), Row.setN [.int .i64 t.sort, .int .i64 t.num, .string t.text, .slice A1 t.names.length c1, .slice A2 t.kids.length c2] [.string s, .int .i64 v] [.int .i64 0, .int .i64 0, .string .empty, .slice none 0 0, .slice none 0 0] rfl hB,
    hx.grown hgr hn.lt hno, (hn.grown hgr (fun b e => by injection e with e; subst e; exact hno)).mono (by omega), hb.trans (below_of_grown hgr (Nat.le_of_lt hw) (Nat.le_of_lt (Nat.lt_trans hw hbb)))⟩
theorem UnpAt.made {w W : World} {s : ByteArray} {v : Int} {t : Tree} {us : List Value} {fq : List Nat} (ho : OwC W t.cells us fq) (hn : New W fq (w.heap.size + 1)) (hs : s.size ≤ maxLen) (hv : (Lit.int .i64 v).wf = true)
    (hz : Row W w.heap.size 28 [.string .empty, .int .i64 0, .int .i64 0, .int .i64 0, .string .empty, .slice none 0 0, .slice none 0 0]) (hb : Below w.heap.size w W) :
    UnpAt w (W.alloc (.cells (.string s :: .int .i64 v :: us).toArray 28)) W.heap.size ⟨s, v, t⟩ (.string s :: .int .i64 v :: us) fq := by
  obtain ⟨A1, c1, A2, c2, f1, f2, rfl, w0, w1, w2, o1, o2, rfl⟩ := ho.oTree
  have hx : OwC W (Event.mk s v t).cells [.string s, .int .i64 v, .int .i64 t.sort, .int .i64 t.num, .string t.text, .slice A1 t.names.length c1, .slice A2 t.kids.length c2] (f1 ++ f2) :=
    OwC.mEvent (x := ⟨s, v, t⟩) hs hv w0 w1 w2 o1 o2
  exact ⟨hz.alloc _, Row.new W _ _, hx.alloc hn.lt _, hn.alloc _, hb.alloc hb.size _⟩
theorem event_ne {strict b3 : Bool} {l l3 : List UInt8} {x : Event} (h : Okr false b3 (pEvent strict l) x l3) (hb : b3 = false) : l.length ≠ 0 := fun e => by
  obtain rfl := List.eq_nil_of_length_eq_zero e
  have := (h.1 hb).2
  simp [pEvent, pShort] at this
theorem packed_ok {x : Event} {l : List UInt8} (h : x.packed = l) (hl : l.length ≠ 0) : x.ok := by
  refine Classical.byContradiction fun hn => ?_
  rw [Event.packed_no hn] at h
  subst h
  exact hl rfl
end Go.Proofs.Ytbjblchhenmgjaa
