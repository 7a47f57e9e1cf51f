/-
  Slices of bytes that a call makes by append: what they hold, and what appends do to them.
-/
import Derived.Lib.AppendStr
import Derived.Lib.ConvBytes
import Derived.Laws.IdiomStrings
import Derived.Test.YtddjgbhkfdpffaaGreatDoorWOwn
set_option linter.unusedVariables false
set_option linter.unusedSimpArgs false
namespace Go.Proofs.YtddjgbhkfdpffaaGreatDoor
open Go.ChangeShapes Go.WideShapes Go.ChangeAt Go.RowKit

def u8s (bs : List UInt8) : List Value := bs.map fun b => Value.int .u8 (b.toNat : Int)
/-- A slice of bytes of the call's own, from B on. -/
def Byt (w : World) (B : Nat) (v : Value) (bs : List UInt8) : Prop := w.ownsRow B 5 1 v bs.length (u8s bs)
/-- What stays: all below B, and all rows that are not of bytes. -/
structure KB (B : Nat) (w w' : World) : Prop where
  below : Below B w w'
  rows : ∀ g e cs, Row w g e cs → e ≠ 5 → Row w' g e cs

section
variable {w w' w1 w2 : World} {B : Nat} {v v' : Value} {bs : List UInt8}
theorem KB.refl (B : Nat) (w : World) : KB B w w := ⟨Below.refl _ _, fun _ _ _ h _ => h⟩
theorem KB.trans (h : KB B w w1) (k : KB B w1 w2) : KB B w w2 := ⟨h.below.trans k.below, fun g e cs hr he => k.rows g e cs (h.rows g e cs hr he) he⟩
theorem KB.of (hB : B ≤ w.heap.size) (hb : Below w.heap.size w w') : KB B w w' := ⟨hb.mono hB, fun g e cs hr _ => hr.below hb hr.lt⟩
theorem KB.alloc (h : KB B w w1) (hB : B ≤ w1.heap.size) (o : Obj) : KB B w (w1.alloc o) := h.trans (KB.of hB ((Below.refl _ _).alloc (Nat.le_refl _) o))
theorem Byt.ne (h : Byt w B v bs) {g : Nat} {e : TypeId} {cs : List Value} (hr : Row w g e cs) (he : e ≠ 5) : v.ownBlock ≠ some g := fun hv => by
  rcases h.2 with ⟨rfl, _⟩ | ⟨g', cap, cur, rfl, _, hg, _⟩
  · cases hv
  · simp only [Value.ownBlock, Option.some.injEq] at hv
    subst hv
    unfold Row at hr
    rw [hg] at hr
    injection hr with hr
    injection hr with _ hr _
    exact he hr.symm
theorem KB.grown (h : Byt w B v bs) (hg : w.grownBy w' v.ownBlock) (hB : B ≤ w.heap.size) : KB B w w' :=
  ⟨⟨hg.os, hg.tape, hg.output, hg.size, fun i hi => hg.block i (by omega) (fun e => by have := (World.ownsRow.lt h i e.symm).1; omega)⟩, fun g e cs hr he => (hg.block g hr.lt (h.ne hr he).symm).trans hr⟩
theorem Byt.nil (w : World) (B : Nat) : Byt w B (.slice none 0 0) [] := World.ownsRow_nil _ _ _ _
theorem Byt.below (h : Byt w B v bs) (hb : Below w.heap.size w w') : Byt w' B v bs := ownsRow_below h hb
theorem Byt.alloc (h : Byt w B v bs) (o : Obj) : Byt (w.alloc o) B v bs := h.below ((Below.refl _ _).alloc (Nat.le_refl _) o)
theorem Byt.mono {C : Nat} (h : Byt w B v bs) (hC : C ≤ B) : Byt w C v bs := by
  refine ⟨h.1, ?_⟩
  rcases h.2 with hn | ⟨g, cap, cur, hv, hB, rest⟩
  · exact .inl hn
  · exact .inr ⟨g, cap, cur, hv, by omega, rest⟩
theorem Byt.new (w : World) (b : UInt8) : Byt (w.alloc (.cells #[.int .u8 (b.toNat : Int)] 5)) w.heap.size (.slice (some ⟨w.heap.size, 0, none⟩) 1 1) [b] :=
  ⟨rfl, .inr ⟨_, 1, _, rfl, Nat.le_refl _, heap_alloc_new w _, Nat.le_refl _, by decide, rfl, rfl⟩⟩
theorem u8s_cells : ∀ (bs : List UInt8) (w : World), OwC w (bs.flatMap byteC) (u8s bs) []
  | [], w => by simp [OwC, u8s]
  | b :: r, w => ⟨[], [], ⟨rfl, by
      have h := b.toNat_lt
      show (Lit.int .u8 (b.toNat : Int)).wf = true
      simp [Lit.wf, IntKind.min, IntKind.max, IntKind.signed, IntKind.bits]
      omega, rfl⟩, u8s_cells r w, rfl⟩
theorem Byt.toOw (h : Byt w B v bs) : ∃ fp, Ow w (.s 1 bs.length (bs.flatMap byteC)) v fp ∧ New w fp B :=
  OwS.toOw (f := byteC) ⟨h, u8s_cells bs w, New.nil _ _, fun g _ => by simp⟩
theorem Byt.form (h : Byt w B v bs) (hn : bs ≠ []) : ∃ g c, v = .slice (some ⟨g, 0, none⟩) bs.length c ∧ ∀ j u, (u8s bs)[j]? = some u → w.cell? ((⟨g, 0, none⟩ : Addr).add j) = some u := by
  rcases h.2 with ⟨_, h0⟩ | ⟨g, cap, cur, hv, _⟩
  · exact absurd (List.eq_nil_of_length_eq_zero h0) hn
  · subst hv
    exact ⟨g, cap, rfl, h.cells (g := g) rfl⟩
end

/-- a list of bytes as a text -/
def ba (l : List UInt8) : ByteArray := ⟨l.toArray⟩
theorem Byt.conv {w : World} {B : Nat} {v : Value} {bs : List UInt8} (h : Byt w B v bs) (hn : bs ≠ []) : (convert 59 9 v).run Tryz.prog w = .ok (.string (ba bs)) w := by
  obtain ⟨g, c, rfl, hc⟩ := h.form hn
  refine run_convert_bytes_back w 59 9 5 ⟨g, 0, none⟩ c bs Tryz.underlying59 Tryz.underlying5 Tryz.underlying9 (fun j hj => hc j _ ?_)
  simp [u8s, List.getElem?_eq_getElem hj]
section
variable {ops : Array Oper} {rest : List Oper} {o : Oper} {a : Act} {Q : Exit → Act → World → Prop} (w : World)
end
theorem Byt.lt {w : World} {B : Nat} {v : Value} {bs : List UInt8} (h : Byt w B v bs) : ∀ g, v.ownBlock = some g → g < w.heap.size := fun g hg => (World.ownsRow.lt h g hg).2
end Go.Proofs.YtddjgbhkfdpffaaGreatDoor
