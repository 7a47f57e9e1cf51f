/-
  A struct in a block of its own with two slices that the call itself grows. What a call keeps: small lemmas that many walks share. The first tree of a schema: plain definitions.
-/
import Derived.Laws.ResultCell
import Derived.Test.YtnaecdoeldoipaaGreatDoorKDTree
import Derived.Test.YtnaecdoeldoipaaGreatDoorKOwX
import Derived.Test.YtnaecdoeldoipaaGreatDoorKKid
set_option linter.unusedVariables false
set_option linter.unusedSimpArgs false
namespace Go.Proofs.YtnaecdoeldoipaaGreatDoor
open Go.ChangeShapes Go.WideShapes Go.ChangeAt Go.RowKit

theorem OwC.plain {w : World} : ∀ (l : List D) {us : List Value} {fp : List Nat}, (∀ d ∈ l, ∃ x, d = .v x) → OwC w l us fp → fp = []
  | [], us, fp, _, h => by
    cases us with
    | nil => exact h
    | cons _ _ => exact h.elim
  | d :: r, us, fp, hd, h => by
    cases us with
    | nil => exact h.elim
    | cons y us =>
      obtain ⟨f1, f2, h1, h2, rfl⟩ := h
      obtain ⟨x, rfl⟩ := hd d (by simp)
      unfold Ow at h1
      rw [h1.2.2, OwC.plain r (fun d hd' => hd d (by simp [hd'])) h2]
      rfl
theorem strs_plain (l : List ByteArray) : ∀ d ∈ l.flatMap strC, ∃ x, d = .v x := fun d hd => by
  obtain ⟨x, _, hx⟩ := List.mem_flatMap.1 hd
  simp only [strC, List.mem_singleton] at hx
  exact ⟨_, hx⟩
theorem Ow.srcStrs {w : World} {l : List ByteArray} {A : Option Addr} {n c : Nat} {fp : List Nat} (h : Ow w (.s 1 l.length (l.flatMap strC)) (.slice A n c) fp) : ∃ us, OwC w (l.flatMap strC) us [] ∧ SrcAt w us A n c := by
  obtain ⟨us, f2, h1, h2, _⟩ := h.srcAt
  obtain rfl := OwC.plain _ (strs_plain l) h1
  exact ⟨us, h1, h2⟩

/-- a result that lies in a block of its own -/
theorem ret_row {P : Program} {fn : Func} {p : Tmp} {ty : TypeId} (h : fn.results = #[.cell p ty]) (tmps : Array Value) (w : World) (g : Nat) (t : TypeId) (cs : List Value) (hr : Row w g t cs) (d : TypeDesc)
    (hp : tmps.getD p undef = .pointer (some ⟨g, 0, none⟩)) (hu : P.underlying ty = some d) (hd : (match d with | .struct _ | .array _ _ => true | _ => false) = true) (hi : (P.info? ty).map (·.size) = some cs.length) :
    (results fn tmps).run P w = .ok (.agg cs.toArray) w := results_cell_row h tmps w g t cs.toArray (0, 0) d hp hr hu hd (by simpa using hi)
theorem ret_row_tmp {P : Program} {fn : Func} {p u : Tmp} {ty : TypeId} (h : fn.results = #[.cell p ty, .tmp u]) (tmps : Array Value) (w : World) (g : Nat) (t : TypeId) (cs : List Value) (hr : Row w g t cs) (d : TypeDesc) (v : Value)
    (hp : tmps.getD p undef = .pointer (some ⟨g, 0, none⟩)) (hv : tmps.getD u undef = v) (hu : P.underlying ty = some d) (hd : (match d with | .struct _ | .array _ _ => true | _ => false) = true) (hi : (P.info? ty).map (·.size) = some cs.length) :
    (results fn tmps).run P w = .ok (.tuple #[.agg cs.toArray, v]) w := by
  rw [results_cell_tmp h, hp, hv]
  simp [asAddr, run_loadVar_row w g t ty cs.toArray (0, 0) d hr hu hd (by simpa using hi), Result.andThen]
theorem Ow.nil_ {α : Type} (w : World) (k : Nat) (f : α → List D) : Ow w (.s k ([] : List α).length (([] : List α).flatMap f)) (.slice none 0 0) [] := by
  unfold Ow
  exact ⟨by simp, none, 0, rfl, Nat.le_refl _, by simp [maxLen], .inl ⟨rfl, rfl⟩⟩
theorem grown_refl (w : World) (r : Option Nat) : w.grownBy w r := ⟨rfl, rfl, rfl, Nat.le_refl _, fun _ _ _ => rfl⟩
theorem below_of_grown {w w' : World} {g B : Nat} (h : w.grownBy w' (some g)) (hB : B ≤ g) (hs : B ≤ w.heap.size) : Below B w w' :=
  ⟨h.os, h.tape, h.output, h.size, fun i hi => h.block i (by omega) (fun e => by injection e with e; omega)⟩

/-- the cells of a row, stored one behind the other -/
def putN (w : World) (g : Nat) : Nat → List Value → World
  | _, [] => w
  | i, v :: r => putN (w.setCell ⟨g, i, none⟩ v) g (i + 1) r
theorem Row.setN {g : Nat} {e : TypeId} : ∀ (vs pre cs : List Value) {w : World}, vs.length = cs.length → Row w g e (pre ++ cs) → Row (putN w g pre.length vs) g e (pre ++ vs)
  | [], pre, [], w, _, h => h
  | [], _, _ :: _, _, hl, _ => by simp at hl
  | _ :: _, _, [], _, hl, _ => by simp at hl
  | v :: vs, pre, c :: cs, w, hl, h => by
    have h1 := h.set pre.length v
    have e1 : (pre ++ c :: cs).set pre.length v = (pre ++ [v]) ++ cs := by simp
    rw [e1] at h1
    have h2 := Row.setN vs (pre ++ [v]) cs (by simpa using hl) h1
    simp only [List.length_append, List.length_cons, List.length_nil, List.append_assoc, List.cons_append, List.nil_append] at h2
    exact h2
theorem Row.setAll {w : World} {g : Nat} {e : TypeId} {cs : List Value} (h : Row w g e cs) (vs : List Value) (hl : vs.length = cs.length) : Row (putN w g 0 vs) g e vs := Row.setN vs [] cs hl h
theorem setN_grown {w0 : World} {g : Nat} : ∀ (vs : List Value) (i : Nat) {w : World}, w0.grownBy w (some g) → w0.grownBy (putN w g i vs) (some g)
  | [], _, _, h => h
  | v :: vs, i, w, h => setN_grown vs (i + 1) (only_setCell h (.inl rfl) v)

structure Two {α β : Type} (w : World) (b B : Nat) (T : TypeId) (mk : Value → Value → List Value) (e1 : TypeId) (k1 : Nat) (f1 : α → List D) (v1 : Value) (l1 : List α) (us1 : List Value) (fi1 : List Nat)
    (e2 : TypeId) (k2 : Nat) (f2 : β → List D) (v2 : Value) (l2 : List β) (us2 : List Value) (fi2 : List Nat) : Prop where
  box : Row w b T (mk v1 v2)
  one : OwS w B e1 k1 f1 v1 l1 us1 fi1
  two : OwS w B e2 k2 f2 v2 l2 us2 fi2
  hb : b < B
  dis : ∀ g, v1.ownBlock = some g → v2.ownBlock ≠ some g
  o12 : ∀ g, v1.ownBlock = some g → g ∉ fi2
  o21 : ∀ g, v2.ownBlock = some g → g ∉ fi1
  ff : ∀ g ∈ fi1, g ∉ fi2

section
variable {α β : Type} {w w1 : World} {b B : Nat} {T : TypeId} {mk : Value → Value → List Value} {e1 : TypeId} {k1 : Nat} {f1 : α → List D} {v1 v1' : Value} {l1 l1' : List α} {us1 us1' : List Value} {fi1 fi1' : List Nat}
    {e2 : TypeId} {k2 : Nat} {f2 : β → List D} {v2 v2' : Value} {l2 l2' : List β} {us2 us2' : List Value} {fi2 fi2' : List Nat}
theorem Two.below (h : Two w b B T mk e1 k1 f1 v1 l1 us1 fi1 e2 k2 f2 v2 l2 us2 fi2) (hb : Below w.heap.size w w1) : Two w1 b B T mk e1 k1 f1 v1 l1 us1 fi1 e2 k2 f2 v2 l2 us2 fi2 :=
  ⟨h.box.below hb h.box.lt, h.one.below (C := 0) hb, h.two.below (C := 0) hb, h.hb, h.dis, h.o12, h.o21, h.ff⟩
theorem Two.alloc (h : Two w b B T mk e1 k1 f1 v1 l1 us1 fi1 e2 k2 f2 v2 l2 us2 fi2) (o : Obj) : Two (w.alloc o) b B T mk e1 k1 f1 v1 l1 us1 fi1 e2 k2 f2 v2 l2 us2 fi2 := h.below ((Below.refl _ _).alloc (Nat.le_refl _) o)
theorem Two.drewN (h : Two w b B T mk e1 k1 f1 v1 l1 us1 fi1 e2 k2 f2 v2 l2 us2 fi2) (n : Nat) : Two (w.drewN n) b B T mk e1 k1 f1 v1 l1 us1 fi1 e2 k2 f2 v2 l2 us2 fi2 := h.below ⟨rfl, rfl, rfl, Nat.le_refl _, fun _ _ => rfl⟩
theorem Two.row1 (h : Two w b B T mk e1 k1 f1 v1 l1 us1 fi1 e2 k2 f2 v2 l2 us2 fi2) (hg : GB w w1 v1 v1') : Row w1 b T (mk v1 v2) := hg.row h.box (h.one.low h.hb)
theorem Two.row2 (h : Two w b B T mk e1 k1 f1 v1 l1 us1 fi1 e2 k2 f2 v2 l2 us2 fi2) (hg : GB w w1 v2 v2') : Row w1 b T (mk v1 v2) := hg.row h.box (h.two.low h.hb)
theorem gb_new {w w1 : World} {v v' : Value} {g : Nat} (hg : GB w w1 v v') (h : v'.ownBlock = some g) : v.ownBlock = some g ∨ w.heap.size ≤ g := by
  rcases hg.at' with e | ⟨x, e, hx⟩
  · exact .inl (e ▸ h)
  · rw [e] at h; injection h with h; exact .inr (h ▸ hx)
/-- the second slice grew, and is stored -/
theorem Two.put2 (h : Two w b B T mk e1 k1 f1 v1 l1 us1 fi1 e2 k2 f2 v2 l2 us2 fi2) (hg : GB w w1 v2 v2') (hn : OwS w1 B e2 k2 f2 v2' l2' us2' fi2') (i : Nat) (hmk : (mk v1 v2).set i v2' = mk v1 v2')
    (hf : ∀ g ∈ fi2', g ∈ fi2 ∨ ((v1.ownBlock ≠ some g) ∧ g ∉ fi1)) :
    Two (w1.setCell ⟨b, i, none⟩ v2') b B T mk e1 k1 f1 v1 l1 us1 fi1 e2 k2 f2 v2' l2' us2' fi2' := by
  have h1 : OwS w1 B e1 k1 f1 v1 l1 us1 fi1 := h.one.kept hg.grown (fun g hg => ⟨h.o21 g hg, fun e => h.dis g e hg⟩)
  refine ⟨hmk ▸ (h.row2 hg).set i v2', h1.setCell (h.one.nlow h.hb) (h.one.low h.hb) _, hn.setCell (hn.nlow h.hb) (hn.low h.hb) _, h.hb, fun g e1 e2 => ?_, fun g e hm => ?_, fun g e hm => ?_, fun g hm hm2 => ?_⟩
  · rcases gb_new hg e2 with e | e
    · exact h.dis g e1 e
    · exact absurd (h.one.lt g e1) (by omega)
  · rcases hf g hm with hm | hm
    · exact h.o12 g e hm
    · exact hm.1 e
  · rcases gb_new hg e with e | e
    · exact h.o21 g e hm
    · exact absurd (h.one.new.lt g hm) (by omega)
  · rcases hf g hm2 with hm2 | hm2
    · exact h.ff g hm hm2
    · exact hm2.2 hm
/-- the first slice grew, and is stored -/
theorem Two.put1 (h : Two w b B T mk e1 k1 f1 v1 l1 us1 fi1 e2 k2 f2 v2 l2 us2 fi2) (hg : GB w w1 v1 v1') (hn : OwS w1 B e1 k1 f1 v1' l1' us1' fi1') (i : Nat) (hmk : (mk v1 v2).set i v1' = mk v1' v2)
    (hf : ∀ g ∈ fi1', g ∈ fi1 ∨ ((v2.ownBlock ≠ some g) ∧ g ∉ fi2)) :
    Two (w1.setCell ⟨b, i, none⟩ v1') b B T mk e1 k1 f1 v1' l1' us1' fi1' e2 k2 f2 v2 l2 us2 fi2 := by
  have h1 : OwS w1 B e2 k2 f2 v2 l2 us2 fi2 := h.two.kept hg.grown (fun g hg => ⟨h.o12 g hg, fun e => h.dis g hg e⟩)
  refine ⟨hmk ▸ (h.row1 hg).set i v1', hn.setCell (hn.nlow h.hb) (hn.low h.hb) _, h1.setCell (h.two.nlow h.hb) (h.two.low h.hb) _, h.hb, fun g e1 e2 => ?_, fun g e hm => ?_, fun g e hm => ?_, fun g hm hm2 => ?_⟩
  · rcases gb_new hg e1 with e | e
    · exact h.dis g e e2
    · exact absurd (h.two.lt g e2) (by omega)
  · rcases gb_new hg e with e | e
    · exact h.o12 g e hm
    · exact absurd (h.two.new.lt g hm) (by omega)
  · rcases hf g hm with hm | hm
    · exact h.o21 g e hm
    · exact hm.1 e
  · rcases hf g hm with hm | hm
    · exact h.ff g hm hm2
    · exact hm.2 hm2
/-- what is below the box's making stays -/
theorem Two.frame1 (h : Two w b B T mk e1 k1 f1 v1 l1 us1 fi1 e2 k2 f2 v2 l2 us2 fi2) (hg : GB w w1 v1 v1') (hs : B ≤ w.heap.size) (i : Nat) (u : Value) {B0 : Nat} (h0 : B0 ≤ b) : Below B0 w (w1.setCell ⟨b, i, none⟩ u) := by
  have := h.hb
  exact (hg.toBelow (B := B0) (by omega) (fun g e => by have := h.one.from e; omega)).setCell (p := ⟨b, i, none⟩) h0 u
theorem Two.frame2 (h : Two w b B T mk e1 k1 f1 v1 l1 us1 fi1 e2 k2 f2 v2 l2 us2 fi2) (hg : GB w w1 v2 v2') (hs : B ≤ w.heap.size) (i : Nat) (u : Value) {B0 : Nat} (h0 : B0 ≤ b) : Below B0 w (w1.setCell ⟨b, i, none⟩ u) := by
  have := h.hb
  exact (hg.toBelow (B := B0) (by omega) (fun g e => by have := h.two.from e; omega)).setCell (p := ⟨b, i, none⟩) h0 u
/-- at the end: two values of the call's own -/
theorem Two.toOw (h : Two w b B T mk e1 k1 f1 v1 l1 us1 fi1 e2 k2 f2 v2 l2 us2 fi2) : ∃ p1 p2, Ow w (.s k1 l1.length (l1.flatMap f1)) v1 p1 ∧ Ow w (.s k2 l2.length (l2.flatMap f2)) v2 p2 ∧ New w (p1 ++ p2) B := by
  obtain ⟨p1, o1, n1, s1⟩ := h.one.toOw'
  obtain ⟨p2, o2, n2, s2⟩ := h.two.toOw'
  refine ⟨p1, p2, o1, o2, ⟨n1.fr.app n2.fr, List.nodup_append.2 ⟨n1.nd, n2.nd, fun a ha c hc e => ?_⟩, fun g hg => ?_⟩⟩
  · subst e
    rcases s1 a ha with h1 | h1 <;> rcases s2 a hc with h2 | h2
    · exact h.dis a h1 h2
    · exact h.o12 a h1 h2
    · exact h.o21 a h2 h1
    · exact h.ff a h1 h2
  · rcases List.mem_append.1 hg with hg | hg
    · exact n1.uf g hg
    · exact n2.uf g hg
end
end Go.Proofs.YtnaecdoeldoipaaGreatDoor
set_option linter.unusedVariables false
set_option linter.unusedSimpArgs false
namespace Go.Proofs.YtnaecdoeldoipaaGreatDoor
open Go.ChangeShapes Go.WideShapes Go.ChangeAt Go.RowKit

theorem only_low {a w w' : World} {row : Option Nat} {B : Nat} (h : a.grownBy w row) (hb : Below B w w') (hB : a.heap.size ≤ B) : a.grownBy w' row :=
  ⟨hb.os.trans h.os, hb.tape.trans h.tape, hb.output.trans h.output, Nat.le_trans h.size hb.size, fun i hi hr => (hb.block i (Nat.lt_of_lt_of_le hi hB)).trans (h.block i hi hr)⟩
section
variable {α β : Type} {w w1 : World} {b B : Nat} {T : TypeId} {mk : Value → Value → List Value} {e1 : TypeId} {k1 : Nat} {f1 : α → List D} {v1 : Value} {l1 : List α} {us1 : List Value} {fi1 : List Nat}
    {e2 : TypeId} {k2 : Nat} {f2 : β → List D} {v2 : Value} {l2 : List β} {us2 : List Value} {fi2 : List Nat}
theorem Two.far (h : Two w b B T mk e1 k1 f1 v1 l1 us1 fi1 e2 k2 f2 v2 l2 us2 fi2) {g : Nat} (hg : w.grownBy w1 (some g)) (hgb : g < b) : Two w1 b B T mk e1 k1 f1 v1 l1 us1 fi1 e2 k2 f2 v2 l2 us2 fi2 :=
  ⟨h.box.grown hg (fun e => by injection e with e; omega), h.one.kept hg (fun x e => by injection e with e; subst e; exact ⟨h.one.nlow (by have := h.hb; omega), h.one.low (by have := h.hb; omega)⟩),
    h.two.kept hg (fun x e => by injection e with e; subst e; exact ⟨h.two.nlow (by have := h.hb; omega), h.two.low (by have := h.hb; omega)⟩), h.hb, h.dis, h.o12, h.o21, h.ff⟩
end
end Go.Proofs.YtnaecdoeldoipaaGreatDoor
set_option linter.unusedVariables false
set_option linter.unusedSimpArgs false
namespace Go.Proofs.YtnaecdoeldoipaaGreatDoor
open Go.ChangeShapes Go.WideShapes Go.ChangeAt Go.RowKit

end Go.Proofs.YtnaecdoeldoipaaGreatDoor
