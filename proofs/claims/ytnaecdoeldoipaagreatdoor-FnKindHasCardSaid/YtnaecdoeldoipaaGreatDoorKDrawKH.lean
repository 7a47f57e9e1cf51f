/-
  A schema that grows in a box of its own; its parts may share blocks. Written by hand. The draws of the reference: a schema into which one fits. Printed by gen/dwider.py. A tree that is spoilt: its state. Printed by gen/spoilt.py. A tree that is spoilt: the reference's l5Spoil. Printed by gen/spoilw.py. The reference's DrawKindHas. Printed by gen/dkh.py.
-/
import Derived.Deep.RegionHeld3
import Derived.Deep.RegionLaw
import Derived.Deep.Cut
import Derived.Deep.CutRange
import Derived.Deep.DeepCutAuto
import Derived.Test.YtnaecdoeldoipaaGreatDoorKOwX
import Derived.Test.YtnaecdoeldoipaaGreatDoorKSpoil0
import Derived.Test.YtnaecdoeldoipaaGreatDoorKDrawT
import Derived.Test.YtnaecdoeldoipaaGreatDoorKTrV
import Derived.Test.YtnaecdoeldoipaaGreatDoorKSpoil
set_option linter.unusedVariables false
set_option linter.unusedSimpArgs false
namespace Go.Proofs.YtnaecdoeldoipaaGreatDoor
open Go.ChangeShapes Go.WideShapes Go.ChangeAt Go.RowKit

section
variable {P : Program} {ops : Array Oper} {rest : List Oper} {o : Oper} {a : Act} {K : Act → World → Prop} {Q : Exit → Act → World → Prop} {E : Prop}
variable {α : Type} {w : World} {B : Nat} {e : TypeId} {k : Nat} {f : α → List D} {v : Value} {l : List α} {us : List Value} {fi : List Nat}
theorem step_appX (hgd : o.guard = none) (s x : Operand) (t : TypeId) (ho' : o.op = .call { callee := .builtin .append, args := #[s, x], argTypes := #[t, t] })
    (i : TypeInfo) (z : Value) (bytes : Nat) (ht : P.underlying t = some (.slice e)) (hi : P.info? e = some i) (hz : i.zero = some z) (hs : i.size = k) (hy : i.bytes = bytes) (hzs : z.cells.size = k) (hk0 : 0 < k)
    (hk : ∀ x, (f x).length = k) (hv : a.eval s = v) (h : OwX w B e k f v l us fi) (r : List α) {ur : List Value} {fr : List Nat} (hr : OwC w (r.flatMap f) ur fr) (hn : NewX w (fi ++ fr) B) (ho : ∀ g, v.ownBlock = some g → g ∉ fr)
    (A : Option Addr) (m c : Nat) (hx : a.eval x = .slice A m c) (hm : m = r.length) (hsrc : SrcAt w ur A m c) (h63 : l.length + m ≤ 1099511627776) (hbt : bytes ≤ 128) (hB : B ≤ w.heap.size)
    (hK : ∀ A' n' c' w', n' = l.length + r.length → OwX w' B e k f (.slice A' n' c') (l ++ r) (us ++ ur) (fi ++ fr) → GB w w' v (.slice A' n' c') → K (a.put o.dst (.slice A' n' c')) w') :
    if Region.wanted o (yielded ops a.tmps) = true then Oper.wp P o a w K Q else E := by
  have hw : Region.wanted o (yielded ops a.tmps) = true := by simp [Region.wanted, hgd]
  rw [if_pos hw]
  exact wp_appX s x t ho' i z bytes ht hi hz hs hy hzs hk0 hk hv h r hr hn ho A m c hx hm hsrc h63 hbt hB hK
end
theorem OwX.emptyX {α : Type} (w : World) (B : Nat) (hB : B ≤ w.heap.size) (e : TypeId) (k : Nat) (f : α → List D) : OwX (w.alloc (.cells #[] e)) B e k f (.slice (some ⟨w.heap.size, 0, none⟩) 0 0) [] [] [] :=
  ⟨World.ownsRow_made w #[] 0 hB (by unfold maxLen; omega) (by simp), by simp [OwC], NewX.nil _ _, fun g h => by simp⟩
structure KAtX (W : World) (b B : Nat) (s : Int) (v1 : Value) (ns : List ByteArray) (us1 : List Value) (v2 : Value) (ks : List Kind) (us2 : List Value) (fi2 : List Nat) : Prop where
  box : Row W b 38 (kindMk s v1 v2)
  one : OwX W B 9 1 strC v1 ns us1 []
  two : OwX W B 38 3 Kind.cells v2 ks us2 fi2
  hb : b < B
  dis : ∀ g, v1.ownBlock = some g → v2.ownBlock ≠ some g
  o12 : ∀ g, v1.ownBlock = some g → g ∉ fi2
  lo : ∀ g ∈ fi2, b < g
section
variable {W W1 : World} {b B : Nat} {s : Int} {v1 v1' : Value} {ns ns' : List ByteArray} {us1 us1' : List Value} {v2 v2' : Value} {ks ks' : List Kind} {us2 us2' : List Value} {fi2 fi2' : List Nat}
theorem OwX.nlow {α : Type} {W : World} {B b : Nat} {e : TypeId} {k : Nat} {f : α → List D} {v : Value} {l : List α} {us : List Value} {fi : List Nat} (h : OwX W B e k f v l us fi) (hl : ∀ g ∈ fi, b < g) (hb : b < B) : b ∉ fi ∧ v.ownBlock ≠ some b :=
  ⟨fun hm => Nat.lt_irrefl _ (hl b hm), h.low hb⟩
theorem KAtX.below (h : KAtX W b B s v1 ns us1 v2 ks us2 fi2) (hb : Below W.heap.size W W1) : KAtX W1 b B s v1 ns us1 v2 ks us2 fi2 :=
  ⟨h.box.below hb h.box.lt, h.one.below (C := 0) hb, h.two.below (C := 0) hb, h.hb, h.dis, h.o12, h.lo⟩
theorem KAtX.alloc (h : KAtX W b B s v1 ns us1 v2 ks us2 fi2) (o : Obj) : KAtX (W.alloc o) b B s v1 ns us1 v2 ks us2 fi2 := h.below ((Below.refl _ _).alloc (Nat.le_refl _) o)
theorem KAtX.drewN (h : KAtX W b B s v1 ns us1 v2 ks us2 fi2) (n : Nat) : KAtX (W.drewN n) b B s v1 ns us1 v2 ks us2 fi2 := h.below ⟨rfl, rfl, rfl, Nat.le_refl _, fun _ _ => rfl⟩
theorem KAtX.far (h : KAtX W b B s v1 ns us1 v2 ks us2 fi2) {g : Nat} (hg : W.grownBy W1 (some g)) (hl : g < b) : KAtX W1 b B s v1 ns us1 v2 ks us2 fi2 := by
  have hbB := h.hb
  refine ⟨h.box.grown hg (fun e => by injection e with e; omega), h.one.kept hg (fun q hq => ?_), h.two.kept hg (fun q hq => ?_), h.hb, h.dis, h.o12, h.lo⟩
  · injection hq with hq
    subst hq
    exact ⟨(fun hm => by cases hm), h.one.low (by omega)⟩
  · injection hq with hq
    subst hq
    exact ⟨(fun hm => by have := h.lo _ hm; omega), h.two.low (by omega)⟩
theorem KAtX.row1 (h : KAtX W b B s v1 ns us1 v2 ks us2 fi2) (hg : GB W W1 v1 v1') : Row W1 b 38 (kindMk s v1 v2) := hg.row h.box (h.one.low h.hb)
theorem KAtX.row2 (h : KAtX W b B s v1 ns us1 v2 ks us2 fi2) (hg : GB W W1 v2 v2') : Row W1 b 38 (kindMk s v1 v2) := hg.row h.box (h.two.low h.hb)
/-- the kids grew, and are stored -/
theorem KAtX.put2 (h : KAtX W b B s v1 ns us1 v2 ks us2 fi2) (hg : GB W W1 v2 v2') (hn : OwX W1 B 38 3 Kind.cells v2' ks' us2' fi2') (hf : ∀ g ∈ fi2', b < g ∧ v1.ownBlock ≠ some g) :
    KAtX (W1.setCell ⟨b, 2, none⟩ v2') b B s v1 ns us1 v2' ks' us2' fi2' := by
  have h1 : OwX W1 B 9 1 strC v1 ns us1 [] := h.one.kept hg.grown (fun g hg => ⟨(fun hm => by cases hm), fun e => h.dis g e hg⟩)
  have hb1 : b ∉ fi2' := fun hm => Nat.lt_irrefl _ (hf b hm).1
  refine ⟨(h.row2 hg).set 2 v2', h1.setCell (fun hm => by cases hm) (h.one.low h.hb) _, hn.setCell hb1 (hn.low h.hb) _, h.hb, fun g e1 e2 => ?_, fun g e hm => (hf g hm).2 e, fun g hm => (hf g hm).1⟩
  rcases gb_new hg e2 with e | e
  · exact h.dis g e1 e
  · exact absurd (h.one.lt g e1) (by omega)
/-- the names grew, and are stored -/
theorem KAtX.put1 (h : KAtX W b B s v1 ns us1 v2 ks us2 fi2) (hg : GB W W1 v1 v1') (hn : OwX W1 B 9 1 strC v1' ns' us1' []) :
    KAtX (W1.setCell ⟨b, 1, none⟩ v1') b B s v1' ns' us1' v2 ks us2 fi2 := by
  have h1 : OwX W1 B 38 3 Kind.cells v2 ks us2 fi2 := h.two.kept hg.grown (fun g hg => ⟨h.o12 g hg, h.dis g hg⟩)
  have hb1 : b ∉ fi2 := fun hm => Nat.lt_irrefl _ (h.lo b hm)
  refine ⟨(h.row1 hg).set 1 v1', hn.setCell (fun hm => by cases hm) (hn.low h.hb) _, h1.setCell hb1 (h.two.low h.hb) _, h.hb, fun g e1 e2 => ?_, fun g e hm => ?_, h.lo⟩
  · rcases gb_new hg e1 with e | e
    · exact h.dis g e e2
    · exact absurd (h.two.lt g e2) (by omega)
  · rcases gb_new hg e with e | e
    · exact h.o12 g e hm
    · exact absurd (h.two.new.lt g hm) (by omega)
/-- what is below the box stays -/
theorem KAtX.frame1 (h : KAtX W b B s v1 ns us1 v2 ks us2 fi2) (hg : GB W W1 v1 v1') (hs : B ≤ W.heap.size) (i : Nat) (u : Value) {B0 : Nat} (h0 : B0 ≤ b) : Below B0 W (W1.setCell ⟨b, i, none⟩ u) := by
  have := h.hb
  exact (hg.toBelow (B := B0) (by omega) (fun g e => by have := h.one.from e; omega)).setCell (p := ⟨b, i, none⟩) h0 u
theorem KAtX.frame2 (h : KAtX W b B s v1 ns us1 v2 ks us2 fi2) (hg : GB W W1 v2 v2') (hs : B ≤ W.heap.size) (i : Nat) (u : Value) {B0 : Nat} (h0 : B0 ≤ b) : Below B0 W (W1.setCell ⟨b, i, none⟩ u) := by
  have := h.hb
  exact (hg.toBelow (B := B0) (by omega) (fun g e => by have := h.two.from e; omega)).setCell (p := ⟨b, i, none⟩) h0 u
/-- the blocks below the lists' base that are not the box stay -/
theorem KAtX.keep1 (h : KAtX W b B s v1 ns us1 v2 ks us2 fi2) (hg : GB W W1 v1 v1') (hs : B ≤ W.heap.size) (i : Nat) (u : Value) {g : Nat} (h1 : g < B) (h2 : g ≠ b) : (W1.setCell ⟨b, i, none⟩ u).heap[g]? = W.heap[g]? :=
  (Below.heap_setCell W1 ⟨b, i, none⟩ u g h2).trans ((hg.toBelow hs (fun g e => h.one.from e)).block g h1)
theorem KAtX.keep2 (h : KAtX W b B s v1 ns us1 v2 ks us2 fi2) (hg : GB W W1 v2 v2') (hs : B ≤ W.heap.size) (i : Nat) (u : Value) {g : Nat} (h1 : g < B) (h2 : g ≠ b) : (W1.setCell ⟨b, i, none⟩ u).heap[g]? = W.heap[g]? :=
  (Below.heap_setCell W1 ⟨b, i, none⟩ u g h2).trans ((hg.toBelow hs (fun g e => h.two.from e)).block g h1)
/-- at the end -/
theorem KAtX.fin (h : KAtX W b B s v1 ns us1 v2 ks us2 fi2) (hs : (Lit.int .i64 s).wf = true) : ∃ fq, OwC W (Kind.mk s ns ks).cells (kindMk s v1 v2) fq ∧ Lt fq W.heap.size ∧ ∀ g ∈ fq, b < g := by
  obtain ⟨p1, o1, n1, s1⟩ := h.one.toOw'
  obtain ⟨p2, o2, n2, s2⟩ := h.two.toOw'
  have hbB := h.hb
  refine ⟨p1 ++ p2, OwC.mKind (x := Kind.mk s ns ks) hs o1 o2, n1.lt.app n2.lt, fun g hg => ?_⟩
  rcases List.mem_append.1 hg with hg | hg
  · rcases s1 g hg with e | e
    · have := h.one.from e; omega
    · cases e
  · rcases s2 g hg with e | e
    · have := h.two.from e; omega
    · exact h.lo g e
/-- a list that is read and no longer grown -/
theorem OwX.read {α : Type} {W : World} {B : Nat} {e : TypeId} {k : Nat} {f : α → List D} {v : Value} {l : List α} {us : List Value} {fi : List Nat} (h : OwX W B e k f v l us fi) : ∃ A c fp, v = .slice A l.length c ∧ Ow W (.s k l.length (l.flatMap f)) (.slice A l.length c) fp ∧ Lt fp W.heap.size ∧ ∀ g ∈ fp, v.ownBlock = some g ∨ g ∈ fi := by
  obtain ⟨A, c, hv⟩ := h.form
  obtain ⟨fp, o1, n1, s1⟩ := h.toOw'
  exact ⟨A, c, fp, hv, hv ▸ o1, n1.lt, s1⟩
end
/-- what a draw of a schema gives, whose parts may share blocks -/
def WDraw (g : Nat) (L : List UInt8) (k N M : Nat) (w : World) (e : Ending) (w' : World) : Prop :=
  ∃ (x : Kind) (us : List Value) (fq : List Nat) (k' : Nat), e = .returned (.agg us.toArray) ∧ OwC w' x.cells us fq ∧ Lt fq w'.heap.size ∧ (∀ b ∈ fq, w.heap.size ≤ b) ∧ x.bulk + 1 ≤ N ∧ k' ≤ k + M ∧ RdD w' g L k' ∧ w.grownBy w' (some g)
def DWider (x : Kind) : Prop := ∀ (us : List Value) (fp : List Nat) (L : List UInt8) (k g lv : Nat) (w : World), OwC w x.cells us fp → Lt fp w.heap.size → x.good lv → g ∉ fp → RdD w g L k → k + 2000 * x.parts ≤ 100000000 → x.parts ≤ 1000 →
  Calls Tryz.prog 57 #[.pointer (some ⟨g, 0, none⟩), .agg us.toArray] w (WDraw g L k (2000 * x.parts) (2000 * x.parts) w)
/-- the state of the drawing: the schema's box, the result's block, what the schema's slices hold, the source -/
structure WiD (s : Int) (ns : List ByteArray) (ks : List Kind) (A1 : Option Addr) (c1 : Nat) (A2 : Option Addr) (c2 : Nat) (f1 f2 : List Nat) (g : Nat) (L : List UInt8) (w W : World) (k' : Nat) : Prop where
  K : Row W w.heap.size 38 [.int .i64 s, .slice A1 ns.length c1, .slice A2 ks.length c2]
  Z : Row W (w.heap.size + 1) 38 [.int .i64 0, .slice none 0 0, .slice none 0 0]
  o1 : Ow W (.s 1 ns.length (ns.flatMap strC)) (.slice A1 ns.length c1) f1
  o2 : Ow W (.s 3 ks.length (ks.flatMap Kind.cells)) (.slice A2 ks.length c2) f2
  lt : Lt (f1 ++ f2) w.heap.size
  ng : g ∉ f1 ++ f2
  gw : g < w.heap.size
  rd : RdD W g L k'
  gr : w.grownBy W (some g)
/-- behind the first loop: the names' table and the kids drawn -/
structure WiE (ms : List Kind) (A3 : Option Addr) (c3 : Nat) (f3 : List Nat) (nb B : Nat) (g : Nat) (w W : World) : Prop where
  nm : Row W nb 9 (drawNames.map Value.string)
  o3 : Ow W (.s 3 ms.length (ms.flatMap Kind.cells)) (.slice A3 ms.length c3) f3
  lt : Lt f3 B
  lo : ∀ b ∈ f3, w.heap.size + 1 + 1 < b
  nbl : w.heap.size + 1 + 1 < nb
  nbB : nb < B
  gw : g < w.heap.size
  sz : B ≤ W.heap.size
section
variable {s : Int} {ns : List ByteArray} {ks ms : List Kind} {A1 : Option Addr} {c1 : Nat} {A2 : Option Addr} {c2 : Nat} {A3 : Option Addr} {c3 nb B : Nat} {f1 f2 f3 : List Nat} {g : Nat} {L : List UInt8} {w W W' : World} {k' k2 : Nat}
theorem WiD.tick (h : WiD s ns ks A1 c1 A2 c2 f1 f2 g L w W k') (hg : W.grownBy W' (some g)) (hr : RdD W' g L k2) : WiD s ns ks A1 c1 A2 c2 f1 f2 g L w W' k2 :=
  have hw := h.gr.size
  have h0 := h.gw
  ⟨h.K.grown hg (fun e => by injection e with e; omega), h.Z.grown hg (fun e => by injection e with e; omega),
    h.o1.grown hg (h.lt.left.mono hw) (fun hm => h.ng (List.mem_append_left _ hm)), h.o2.grown hg (h.lt.right.mono hw) (fun hm => h.ng (List.mem_append_right _ hm)), h.lt, h.ng, h.gw, hr, only_trans h.gr hg⟩
theorem WiD.low (h : WiD s ns ks A1 c1 A2 c2 f1 f2 g L w W k') {B : Nat} (hb : Below B W W') (hB : w.heap.size + 1 + 1 ≤ B) : WiD s ns ks A1 c1 A2 c2 f1 f2 g L w W' k' :=
  have h0 := h.gw
  ⟨h.K.below hb (by omega), h.Z.below hb (by omega), h.o1.below hb (h.lt.left.mono (by omega)), h.o2.below hb (h.lt.right.mono (by omega)), h.lt, h.ng, h.gw, h.rd.low hb (by omega), only_lowR h.gr hb (by omega)⟩
theorem WiE.tick (h : WiE ms A3 c3 f3 nb B g w W) (hg : W.grownBy W' (some g)) : WiE ms A3 c3 f3 nb B g w W' :=
  have h0 := h.gw
  have h1 := h.nbl
  ⟨h.nm.grown hg (fun e => by injection e with e; omega), h.o3.grown hg (h.lt.mono h.sz) (fun hm => by have := h.lo _ hm; omega), h.lt, h.lo, h.nbl, h.nbB, h.gw, Nat.le_trans h.sz hg.size⟩
theorem WiE.keep (h : WiE ms A3 c3 f3 nb B g w W) (hk : ∀ q, q < B → q ≠ w.heap.size + 1 + 1 → W'.heap[q]? = W.heap[q]?) (hs : W.heap.size ≤ W'.heap.size) : WiE ms A3 c3 f3 nb B g w W' :=
  ⟨(hk nb h.nbB (by have := h.nbl; omega)).trans h.nm, Ow.frame _ (fun q hq => hk q (h.lt q hq) (by have := h.lo q hq; omega)) h.o3, h.lt, h.lo, h.nbl, h.nbB, h.gw, Nat.le_trans h.sz hs⟩
theorem WiE.low (h : WiE ms A3 c3 f3 nb B g w W) {C : Nat} (hb : Below C W W') (hC : B ≤ C) : WiE ms A3 c3 f3 nb B g w W' := h.keep (fun q hq _ => hb.block q (by omega)) hb.size
theorem WiD.fin (h : WiD s ns ks A1 c1 A2 c2 f1 f2 g L w W k') {t : Kind} {vs : List Value} {fq : List Nat} {k0 N M : Nat} (ho : OwC W t.cells vs fq) (hl : Lt fq W.heap.size) (hn : ∀ b ∈ fq, w.heap.size + 1 < b) (hb : t.bulk + 1 ≤ N) (hk : k' ≤ k0 + M) : WDraw g L k0 N M w (.returned (.agg vs.toArray)) (putN W (w.heap.size + 1) 0 vs) := by
  have h0 := h.gw
  have hgr := setN_grown vs 0 (grown_refl W (some (w.heap.size + 1)))
  have hno : w.heap.size + 1 ∉ fq := fun hm => Nat.lt_irrefl _ (hn _ hm)
  have hb2 : Below w.heap.size W (putN W (w.heap.size + 1) 0 vs) := below_of_grown hgr (by omega) h.gr.size
  exact ⟨t, vs, fq, k', rfl, ho.grown hgr hl hno, hl.mono hgr.size, fun b hb => by have := hn b hb; omega, hb, hk, h.rd.low hb2 h0, only_lowR h.gr hb2 (Nat.le_refl _)⟩
end
end Go.Proofs.YtnaecdoeldoipaaGreatDoor
set_option linter.unusedVariables false
set_option linter.unusedSimpArgs false
namespace Go.Proofs.YtnaecdoeldoipaaGreatDoor
open Go.ChangeShapes Go.WideShapes Go.ChangeAt Go.RowKit

theorem DN2 : DN 2 = 120 := rfl
theorem DM2 : DM 2 = 61 := rfl
theorem wnew {w7 : World} {b C lo : Nat} {s : Int} {v1 v2 : Value} {ns : List ByteArray} {us1 : List Value} {ks : List Kind} {us2 : List Value} {fi2 : List Nat} {x : Kind} {vs : List Value} {fq : List Nat}
    (hT : KAtX w7 b C s v1 ns us1 v2 ks us2 fi2) (ho : OwC w7 x.cells vs fq) (hn : New w7 fq lo) (h1 : ∀ g, v1.ownBlock = some g → g < lo) (h2 : ∀ g, v2.ownBlock = some g → g < lo) (hC : C ≤ lo) (hl : lo ≤ w7.heap.size) :
    let W9 := (w7.alloc (.cells vs.toArray 38)).alloc (.cells ([.int .i64 6, .slice none 0 0, .slice (some ⟨w7.heap.size, 0, none⟩) 1 1]).toArray 38)
    KAtX W9 b C s v1 ns us1 v2 ks us2 fi2 ∧ OwC W9 ([Kind.mk 6 [] [x]].flatMap Kind.cells) [.int .i64 6, .slice none 0 0, .slice (some ⟨w7.heap.size, 0, none⟩) 1 1] (w7.heap.size :: fq) ∧ NewX W9 (fi2 ++ (w7.heap.size :: fq)) C ∧ (∀ g, v2.ownBlock = some g → g ∉ w7.heap.size :: fq) ∧ C ≤ W9.heap.size ∧ SrcAt W9 [.int .i64 6, .slice none 0 0, .slice (some ⟨w7.heap.size, 0, none⟩) 1 1] (some ⟨w7.heap.size + 1, 0, none⟩) 1 1 ∧ (∀ g ∈ fi2 ++ (w7.heap.size :: fq), b < g ∧ v1.ownBlock ≠ some g) := by
  intro W9
  have hs9 : W9.heap.size = w7.heap.size + 1 + 1 := by simp only [W9, World.size_alloc]
  have hb := hT.hb
  have hlt : Lt (w7.heap.size :: fq) (w7.heap.size + 1) := fun q hq => by
    rcases List.mem_cons.1 hq with rfl | hq
    · exact Nat.lt_succ_self _
    · exact Nat.lt_succ_of_lt (hn.lt q hq)
  have hfr : ∀ q ∈ w7.heap.size :: fq, lo ≤ q := fun q hq => by
    rcases List.mem_cons.1 hq with rfl | hq
    · exact hl
    · exact (hn.fr q hq).1
  have hT9 : KAtX W9 b C s v1 ns us1 v2 ks us2 fi2 := (hT.alloc _).alloc _
  refine ⟨hT9, ?_, ⟨hT9.two.new.lt.app (hlt.mono (by omega))⟩, fun g e hm => ?_, by omega, ?_, fun g hg => ?_⟩
  · rw [List.flatMap_singleton]
    exact (kone_ow (s := 6) (by decide) (ho.alloc hn.lt (.cells vs.toArray 38)) w7.heap.size (Row.new w7 _ _)).alloc (by rw [World.size_alloc]; exact hlt) _
  · have h3 := h2 g e
    have h4 := hfr g hm
    omega
  · have h := SrcAt.new (w7.alloc (.cells vs.toArray 38)) [.int .i64 6, .slice none 0 0, .slice (some ⟨w7.heap.size, 0, none⟩) 1 1] 38 1 1
    rw [World.size_alloc] at h
    exact h
  · rcases List.mem_append.1 hg with hg | hg
    · exact ⟨hT.lo g hg, fun e => hT.o12 g e hg⟩
    · have h4 := hfr g hg
      exact ⟨by omega, fun e => by have := h1 g e; omega⟩
/-- a kid out of the old list -/
theorem wold {W : World} {b C : Nat} {s : Int} {v1 v2 : Value} {ns : List ByteArray} {us1 : List Value} {ks : List Kind} {us2 : List Value} {fi2 : List Nat} {y : Kind} {vs : List Value} {fi : List Nat}
    (hT : KAtX W b C s v1 ns us1 v2 ks us2 fi2) (ho : OwC W y.cells vs fi) (hlo : ∀ q ∈ fi, b < q ∧ q < C) (hC : C ≤ W.heap.size) :
    let W9 := (W.drewN 1).alloc (.cells vs.toArray 38)
    KAtX W9 b C s v1 ns us1 v2 ks us2 fi2 ∧ OwC W9 ([y].flatMap Kind.cells) vs fi ∧ NewX W9 (fi2 ++ fi) C ∧ (∀ g, v2.ownBlock = some g → g ∉ fi) ∧ C ≤ W9.heap.size ∧ (∀ g ∈ fi2 ++ fi, b < g ∧ v1.ownBlock ≠ some g) := by
  intro W9
  have hbz : Below W.heap.size W W9 := (below_drewN (Below.refl _ W) 1).alloc (Nat.le_refl _) _
  have hli : Lt fi W.heap.size := fun q hq => by have := (hlo q hq).2; omega
  have hT9 : KAtX W9 b C s v1 ns us1 v2 ks us2 fi2 := (hT.drewN 1).alloc _
  refine ⟨hT9, by rw [List.flatMap_singleton]; exact ho.below hbz hli, ⟨hT9.two.new.lt.app (hli.mono hbz.size)⟩, fun g e hm => ?_, Nat.le_trans hC hbz.size, fun g hg => ?_⟩
  · have h1 := hT.two.from e
    have h2 := (hlo g hm).2
    omega
  · rcases List.mem_append.1 hg with hg | hg
    · exact ⟨hT.lo g hg, fun e => hT.o12 g e hg⟩
    · exact ⟨(hlo g hg).1, fun e => by have := hT.one.from e; have := (hlo g hg).2; omega⟩
theorem Kind.len_parts : ∀ ks : List Kind, ks.length ≤ Kind.partsS ks
  | [] => Nat.zero_le _
  | y :: r => by
    have hy := y.parts_eq
    have h := Kind.len_parts r
    show r.length + 1 ≤ y.parts + Kind.partsS r
    omega
set_option maxRecDepth 100000 in
set_option maxHeartbeats 4000000 in
theorem dWider_of (s : Int) (ns : List ByteArray) (ks : List Kind) (ih : ∀ y ∈ ks, DWider y) : DWider (.mk s ns ks) := by
  intro us fp L k g lv w ho hf hgood hng hr hk hpt
  obtain ⟨A1, c1, A2, c2, f1, f2, rfl, w0, o1, o2, rfl⟩ := ho.oKind
  simp only [Kind.sort, Kind.names, Kind.kids] at w0 o1 o2 ⊢
  have hsh : (Kind.mk s ns ks).shape := ((Kind.good_iff _ lv).1 hgood).2.1
  have hgk : Kind.goodS ks (lv + 1) := ((Kind.good_iff _ lv).1 hgood).2.2
  unfold Kind.shape at hsh
  simp only [Kind.sort, Kind.names, Kind.kids] at hsh
  have hgw := hr.lt
  have hpe := Kind.parts_eq (.mk s ns ks)
  simp only [Kind.kids] at hpe
  obtain ⟨P, hP⟩ : ∃ P, (Kind.mk s ns ks).parts = P := ⟨_, rfl⟩
  rw [hP] at hk hpt hpe ⊢
  have HPE := hide hpe
  have HGK := hide hgk
  have HIH := hide ih
  have HNL := hide (show s = 5 → ns.length = ks.length from fun h => by
    rcases hsh with ⟨h1, _⟩ | ⟨h1, _⟩ | ⟨_, _, h3⟩
    · omega
    · omega
    · exact h3)
  have hkl := Kind.len_parts ks
  have HKL := hide hkl
  have HW0 := hide w0
  have O1 := hide o1
  have O2 := hide o2
  have HR := hide hr
  have HF := hide hf
  have HNG := hide hng
  clear hP hpe hgk ih hsh ho o1 o2 hr hgood hf hng hkl w0
  obtain ⟨ia, hia, ha0, ha1, ha2⟩ := info_parts info_string
  obtain ⟨ib, hib, hb0, hb1, hb2⟩ := info_parts info_Kind'
  have HIa := hide hia
  have HIb := hide hib
  clear hia hib
  go_enter Tryz.func57, Tryz.ntmps57
  go_upto_region 2 with fail
  generalize hw1 : World.alloc _ _ = w1
  have hbA : Below w.heap.size w w1 := by rw [← hw1]; exact (((Below.refl _ _).alloc (Nat.le_refl _) _).alloc (by simp) _).alloc (by simp; omega) _
  have HT0 := hide (show Row w1 (w.heap.size + 1 + 1) 38 (kindMk s (.slice none 0 0) (.slice none 0 0)) from by
    rw [← hw1]
    have h := Row.new ((w.alloc (.cells #[.int .i64 s, .slice A1 ns.length c1, .slice A2 ks.length c2] 38)).alloc (.cells [.int .i64 0, .slice none 0 0, .slice none 0 0].toArray 38)) 38 (kindMk s (.slice none 0 0) (.slice none 0 0))
    rw [World.size_alloc, World.size_alloc] at h
    exact h)
  have HD := hide (show WiD s ns ks A1 c1 A2 c2 f1 f2 g L w w1 k from
    ⟨by rw [← hw1]; exact ((Row.new w _ _).alloc _).alloc _, by
      rw [← hw1]
      have h := (Row.new (w.alloc (.cells #[.int .i64 s, .slice A1 ns.length c1, .slice A2 ks.length c2] 38)) 38 [.int .i64 0, .slice none 0 0, .slice none 0 0]).alloc (.cells (kindMk s (.slice none 0 0) (.slice none 0 0)).toArray 38)
      rw [World.size_alloc] at h
      exact h, O1.out.below hbA HF.out.left, O2.out.below hbA HF.out.right, HF.out, HNG.out, hgw, HR.out.below hbA, grownBy_below hbA (some g)⟩)
  have HT := hide (show KAtX w1 (w.heap.size + 1 + 1) (w.heap.size + 1 + 1 + 1) s (.slice none 0 0) [] [] (.slice none 0 0) [] [] [] from ⟨HT0.out, OwX.nil _ _ _ _ _, OwX.nil _ _ _ _ _, Nat.lt_succ_self _, fun g h => (by cases h), fun g h => (by cases h), fun g h => (by cases h)⟩)
  clear hw1 hbA O1 O2 HR HT0
  go_wp2_with fail
  go_loopw [6] (fun iv wr => ∃ (j : Nat) (ys : List Kind) (B2 : Option Addr) (n2 d2 : Nat) (us2 : List Value) (fi2 : List Nat) (kx : Nat), iv = .int .i64 (j : Int) ∧ KAtX wr (w.heap.size + 1 + 1) (w.heap.size + 1 + 1 + 1) s (.slice none 0 0) [] [] (.slice B2 n2 d2) ys us2 fi2 ∧ WiD s ns ks A1 c1 A2 c2 f1 f2 g L w wr kx ∧ j ≤ ks.length ∧ ys.length = j ∧ Kind.bulkS ys + ys.length ≤ 2000 * Kind.partsS (ks.take j) ∧ kx ≤ k + 2000 * Kind.partsS (ks.take j)) (fun iv _ => ks.length - (intOf iv).toNat)
  case atStart => exact ⟨0, [], none, 0, 0, [], [], k, rfl, HT.out, HD.out, Nat.zero_le _, rfl, Nat.zero_le _, Nat.le_add_right _ _⟩
  case round =>
    obtain ⟨j, ys, B2, n2, d2, us2, fi2, kx, rfl, hT, hD, hjk, hyl, hbk, hkx⟩ := hrel
    have HTr := hide hT
    have HDr := hide hD
    have HYL := hide hyl
    have HBK := hide hbk
    have HKX := hide hkx
    clear hT hD hbk hkx hyl HD HT
    have k2 := HDr.out.K.cell 2
    have kl := HDr.out.K.lt
    by_cases hj : j < ks.length
    rotate_left
    · have hji : ¬ ((j : Int) < (ks.length : Int)) := by omega
      obtain rfl : j = ks.length := by omega
      have etn : ks.take ks.length = ks := List.take_of_length_le (Nat.le_refl _)
      have hbe : Kind.bulkS ys + ys.length ≤ 2000 * Kind.partsS ks := by have h := HBK.out; rw [etn] at h; exact h
      have hke : kx ≤ k + 2000 * Kind.partsS ks := by have h := HKX.out; rw [etn] at h; exact h
      have HBE := hide hbe
      have HKE := hide hke
      clear etn hbe hke HBK HKX hjk
      have HLN := hide (l5Names_any wr)
      go_wp2_with fail
      refine HLN.out.mono ?_
      rintro e w4 ⟨rfl, hnr, hb4⟩
      have hBw : w.heap.size + 1 + 1 < wr.heap.size := HTr.out.box.lt
      have hnc : wr.heap.size < w4.heap.size := hnr.lt
      have HNR := hide hnr
      have HD4 := hide (HDr.out.low hb4 (Nat.le_of_lt hBw))
      have HT4 := hide (HTr.out.below hb4)
      clear hnr hb4 HDr HTr HLN k2 kl hji
      generalize wr.heap.size = nb at HNR hBw hnc ⊢
      have k0 := HD4.out.K.cell 0
      have kl := HD4.out.K.lt
      by_cases hs5 : s = 5
      rotate_left
      · skip
        have hkb : kx + 1 ≤ k + 2000 * P := (by have := HKE.out; have := HPE.out; omega)
        have hbb : (Kind.mk s [] ys).bulk + 2 ≤ 2000 * P := (by rw [Kind.bulk_eq]; simp only [Kind.names, Kind.kids]; have h0 : bulkStrs [] = 0 := rfl; have := HBE.out; have := HPE.out; omega)
        have HC := hide (pick_any HD4.out.rd (n := 6) (by omega) (by omega) (by omega))
        go_wp2_with fail
        refine HC.out.mono ?_
        rintro e w9 ⟨r, rfl, hr6, h9, hg9⟩
        have HD9 := hide (HD4.out.tick hg9 h9)
        have HT9 := hide (HT4.out.far hg9 (by omega))
        clear HC h9 hg9
        obtain ⟨fq, hoq, hlq, hfq⟩ := HT9.out.fin HW0.out
        have HOQ := hide hoq
        have HLQ := hide hlq
        have HFQ := hide hfq
        clear hoq hlq hfq
        have z0 := HD9.out.Z.cell 0
        have y0 := HD9.out.Z.frozen 0
        have z1 := HD9.out.Z.cell 1
        have y1 := HD9.out.Z.frozen 1
        have z2 := HD9.out.Z.cell 2
        have y2 := HD9.out.Z.frozen 2
        have lz := HD9.out.Z.lt
        have t0 : w9.cell? ⟨w.heap.size + 1 + 1, 0, none⟩ = some (.int .i64 s) := HT9.out.box.cell 0
        have t1 : w9.cell? ⟨w.heap.size + 1 + 1, 1, none⟩ = some (.slice none 0 0) := HT9.out.box.cell 1
        have t2 : w9.cell? ⟨w.heap.size + 1 + 1, 2, none⟩ = some (.slice B2 n2 d2) := HT9.out.box.cell 2
        have tl := HT9.out.box.lt
        by_cases hr0 : r = 0
        · subst hr0
          go_wp2
          have hRow := Row.new w9 38 (kindMk s (.slice none 0 0) (.slice B2 n2 d2))
          have ho5 := kone_ow (s := 6) (by decide) (HOQ.out.alloc HLQ.out (.cells (kindMk s (.slice none 0 0) (.slice B2 n2 d2)).toArray 38)) w9.heap.size hRow
          have hd5 := HD9.out.low (B := w9.heap.size) ((Below.refl _ _).alloc (Nat.le_refl _) (.cells (kindMk s (.slice none 0 0) (.slice B2 n2 d2)).toArray 38)) (Nat.le_of_lt tl)
          have hl5 : Lt (w9.heap.size :: fq) (w9.alloc (.cells (kindMk s (.slice none 0 0) (.slice B2 n2 d2)).toArray 38)).heap.size := fun q hq => by
            rw [World.size_alloc]
            rcases List.mem_cons.1 hq with rfl | hq
            · exact Nat.lt_succ_self _
            · exact Nat.lt_succ_of_lt (HLQ.out q hq)
          have hfin := hd5.fin (t := .mk 6 [] [.mk s [] ys]) (k0 := k) (N := 2000 * P) (M := 2000 * P) ho5 hl5 (fun q hq => by
            rcases List.mem_cons.1 hq with rfl | hq
            · omega
            · have := HFQ.out q hq; omega) (by rw [Kind.bulk_one]; omega) (by omega)
          rw [putN_alloc _ _ _ _ lz] at hfin
          refine bodyPost_ret (ret_row rfl _ _ (w.heap.size + 1) 38 [.int .i64 6, .slice none 0 0, .slice (some ⟨w9.heap.size, 0, none⟩) 1 1] ((HD9.out.Z.setAll [.int .i64 6, .slice none 0 0, .slice (some ⟨w9.heap.size, 0, none⟩) 1 1] rfl).alloc _) _ rfl Tryz.underlying38 rfl (by kernel_rfl)) rfl ?_
          exact hfin
        · have hr0i : ¬ ((r : Int) = 0) := by omega
          go_wp2
          refine bodyPost_ret (ret_row rfl _ _ (w.heap.size + 1) 38 (kindMk s (.slice none 0 0) (.slice B2 n2 d2)) (HD9.out.Z.setAll (kindMk s (.slice none 0 0) (.slice B2 n2 d2)) rfl) _ rfl Tryz.underlying38 rfl (by kernel_rfl)) rfl ?_
          exact HD9.out.fin (t := .mk s [] ys) (k0 := k) HOQ.out HLQ.out (fun q hq => by have := HFQ.out q hq; omega) (by omega) (by omega)
      · subst hs5
        have HNL5 := hide (HNL.out rfl)
        have t2 : w4.cell? ⟨w.heap.size + 1 + 1, 2, none⟩ = some (.slice B2 n2 d2) := HT4.out.box.cell 2
        have t2f : w4.frozen? ⟨w.heap.size + 1 + 1, 2, none⟩ = false := HT4.out.box.frozen 2
        have tl := HT4.out.box.lt
        obtain ⟨A3, c3, f3, hv3, o3, l3, s3⟩ := HT4.out.two.read
        injection hv3 with e1 e2 e3
        subst e1 e2 e3
        have HO3 := hide o3
        have HL3 := hide l3
        have HS3 := hide (show ∀ q ∈ f3, w.heap.size + 1 + 1 < q from fun q hq => by
          rcases s3 q hq with h | h
          · have := HT4.out.two.from h; omega
          · exact HT4.out.lo q h)
        clear o3 l3 s3
        go_upto_region 10 with fail
        generalize hw5 : World.alloc _ _ = w5
        have hsz4 : (w4.setCell ⟨w.heap.size + 1 + 1, 2, none⟩ (.slice (some ⟨w4.heap.size, 0, none⟩) 0 0)).heap.size = w4.heap.size := by simp
        have hbA : Below (w.heap.size + 1 + 1) w4 w5 := by rw [← hw5]; exact ((Below.refl _ _).setCell (p := ⟨w.heap.size + 1 + 1, 2, none⟩) (Nat.le_refl _) _).alloc (by rw [hsz4]; exact Nat.le_of_lt tl) _
        have HD5 := hide (HD4.out.low hbA (Nat.le_refl _))
        have HT5 := hide (show KAtX w5 (w.heap.size + 1 + 1) w4.heap.size 5 (.slice none 0 0) [] [] (.slice (some ⟨w4.heap.size, 0, none⟩) 0 0) [] [] [] from by
          rw [← hw5]
          have h2 := OwX.emptyX (α := Kind) (w4.setCell ⟨w.heap.size + 1 + 1, 2, none⟩ (.slice (some ⟨w4.heap.size, 0, none⟩) 0 0)) w4.heap.size (by rw [hsz4]; exact Nat.le_refl _) 38 3 Kind.cells
          rw [hsz4] at h2
          exact ⟨(HT4.out.box.set 2 _).alloc _, OwX.nil _ _ _ _ _, h2, tl, fun g h => (by cases h), fun g h => (by cases h), fun g h => (by cases h)⟩)
        have HE5 := hide (show WiE ys B2 d2 f3 nb w4.heap.size g w w5 from by
          rw [← hw5]
          refine ⟨(HNR.out.far (p := ⟨w.heap.size + 1 + 1, 2, none⟩) (Nat.ne_of_gt hBw) _).alloc _, (HO3.out.frame _ (fun q hq => ?_)), HL3.out, HS3.out, hBw, hnc, hgw, by rw [World.size_alloc, hsz4]; exact Nat.le_succ _⟩
          have h1 := HS3.out q hq
          have h2 := HL3.out q hq
          exact (Below.heap_alloc _ _ q (by rw [hsz4]; exact h2)).trans (Below.heap_setCell w4 ⟨w.heap.size + 1 + 1, 2, none⟩ _ q (by show q ≠ w.heap.size + 1 + 1; omega)))
        have hCw : w.heap.size + 1 + 1 < w4.heap.size := tl
        have hC5 : w4.heap.size ≤ w5.heap.size := HE5.out.sz
        clear hw5 hbA hsz4 t2 t2f tl HT4 HD4 HNR HO3 HL3 HS3 k0 kl hnc
        generalize w4.heap.size = C at *
        obtain ⟨kB, rfl⟩ : ∃ n, n = kx := ⟨_, rfl⟩
        have hkBb : kB ≤ k + 2000 * Kind.partsS ks := HKE.out
        have hpe1 := HPE.out
        have HYB := hide (show bulkStrs [] = 0 from rfl)
        go_wp2_with fail
        go_loopw [9, 10] (fun jv iv wr => ∃ (i j : Nat) (C1 : Option Addr) (m1 e1 : Nat) (ns' : List ByteArray) (us1 : List Value) (C2 : Option Addr) (m2 e2 : Nat) (ks' : List Kind) (us2 : List Value) (fi2 : List Nat) (kx : Nat), jv = .int .i64 (j : Int) ∧ iv = .int .i64 (i : Int) ∧ KAtX wr (w.heap.size + 1 + 1) C 5 (.slice C1 m1 e1) ns' us1 (.slice C2 m2 e2) ks' us2 fi2 ∧ WiD 5 ns ks A1 c1 A2 c2 f1 f2 g L w wr kx ∧ WiE ys B2 d2 f3 nb C g w wr ∧ i ≤ 8 ∧ j ≤ ns.length ∧ ns'.length ≤ i ∧ ks'.length ≤ i ∧ bulkStrs ns' ≤ 5 * i ∧ Kind.bulkS ks' ≤ Kind.bulkS (ys.take j) + 121 * i ∧ kx ≤ kB + 62 * i) (fun _ iv _ => 8 - (intOf iv).toNat)
        case atStart => exact ⟨0, 0, none, 0, 0, [], [], some ⟨C, 0, none⟩, 0, 0, [], [], [], kB, rfl, rfl, HT5.out, HD5.out, HE5.out, Nat.zero_le _, Nat.zero_le _, Nat.le_refl _, Nat.le_refl _, by rw [HYB.out]; exact Nat.zero_le _, Nat.zero_le _, Nat.le_add_right _ _⟩
        case round =>
          obtain ⟨i, j, C1, m1, e1, ns', us1, C2, m2, e2, ks', us2, fi2, kx, rfl, rfl, hT, hD, hE, hi8, hjn, hnl, hkl, hbs, hbk, hkx⟩ := hrel
          have HTr := hide hT
          have HDr := hide hD
          have HEr := hide hE
          have HBK := hide hbk
          have HBS := hide hbs
          clear hT hD hE hbk hbs HD5 HT5 HE5
          by_cases hi : i < 8
          rotate_left
          · have hii : ¬ ((i : Int) < 8) := by omega
            obtain rfl : i = 8 := by omega
            have hkb : kx + 1 ≤ k + 2000 * P := (by omega)
            have hbb : (Kind.mk 5 ns' ks').bulk + 2 ≤ 2000 * P := (by rw [Kind.bulk_form]; have := HBE.out; have := Kind.bulkS_le ys j; have := HBK.out; have := HBS.out; omega)
            have HC := hide (pick_any HDr.out.rd (n := 6) (by omega) (by omega) (by omega))
            go_wp2_with fail
            refine HC.out.mono ?_
            rintro e w9 ⟨r, rfl, hr6, h9, hg9⟩
            have HD9 := hide (HDr.out.tick hg9 h9)
            have HT9 := hide (HTr.out.far hg9 (by omega))
            clear HC h9 hg9
            obtain ⟨fq, hoq, hlq, hfq⟩ := HT9.out.fin (by decide)
            have HOQ := hide hoq
            have HLQ := hide hlq
            have HFQ := hide hfq
            clear hoq hlq hfq
            have z0 := HD9.out.Z.cell 0
            have y0 := HD9.out.Z.frozen 0
            have z1 := HD9.out.Z.cell 1
            have y1 := HD9.out.Z.frozen 1
            have z2 := HD9.out.Z.cell 2
            have y2 := HD9.out.Z.frozen 2
            have lz := HD9.out.Z.lt
            have t0 : w9.cell? ⟨w.heap.size + 1 + 1, 0, none⟩ = some (.int .i64 5) := HT9.out.box.cell 0
            have t1 : w9.cell? ⟨w.heap.size + 1 + 1, 1, none⟩ = some (.slice C1 m1 e1) := HT9.out.box.cell 1
            have t2 : w9.cell? ⟨w.heap.size + 1 + 1, 2, none⟩ = some (.slice C2 m2 e2) := HT9.out.box.cell 2
            have tl := HT9.out.box.lt
            by_cases hr0 : r = 0
            · subst hr0
              go_wp2
              have hRow := Row.new w9 38 (kindMk 5 (.slice C1 m1 e1) (.slice C2 m2 e2))
              have ho5 := kone_ow (s := 6) (by decide) (HOQ.out.alloc HLQ.out (.cells (kindMk 5 (.slice C1 m1 e1) (.slice C2 m2 e2)).toArray 38)) w9.heap.size hRow
              have hd5 := HD9.out.low (B := w9.heap.size) ((Below.refl _ _).alloc (Nat.le_refl _) (.cells (kindMk 5 (.slice C1 m1 e1) (.slice C2 m2 e2)).toArray 38)) (Nat.le_of_lt tl)
              have hl5 : Lt (w9.heap.size :: fq) (w9.alloc (.cells (kindMk 5 (.slice C1 m1 e1) (.slice C2 m2 e2)).toArray 38)).heap.size := fun q hq => by
                rw [World.size_alloc]
                rcases List.mem_cons.1 hq with rfl | hq
                · exact Nat.lt_succ_self _
                · exact Nat.lt_succ_of_lt (HLQ.out q hq)
              have hfin := hd5.fin (t := .mk 6 [] [.mk 5 ns' ks']) (k0 := k) (N := 2000 * P) (M := 2000 * P) ho5 hl5 (fun q hq => by
                rcases List.mem_cons.1 hq with rfl | hq
                · omega
                · have := HFQ.out q hq; omega) (by rw [Kind.bulk_one]; omega) (by omega)
              rw [putN_alloc _ _ _ _ lz] at hfin
              refine bodyPost_ret (ret_row rfl _ _ (w.heap.size + 1) 38 [.int .i64 6, .slice none 0 0, .slice (some ⟨w9.heap.size, 0, none⟩) 1 1] ((HD9.out.Z.setAll [.int .i64 6, .slice none 0 0, .slice (some ⟨w9.heap.size, 0, none⟩) 1 1] rfl).alloc _) _ rfl Tryz.underlying38 rfl (by kernel_rfl)) rfl ?_
              exact hfin
            · have hr0i : ¬ ((r : Int) = 0) := by omega
              go_wp2
              refine bodyPost_ret (ret_row rfl _ _ (w.heap.size + 1) 38 (kindMk 5 (.slice C1 m1 e1) (.slice C2 m2 e2)) (HD9.out.Z.setAll (kindMk 5 (.slice C1 m1 e1) (.slice C2 m2 e2)) rfl) _ rfl Tryz.underlying38 rfl (by kernel_rfl)) rfl ?_
              exact HD9.out.fin (t := .mk 5 ns' ks') (k0 := k) HOQ.out HLQ.out (fun q hq => by have := HFQ.out q hq; omega) (by omega) (by omega)
          · have hii : (i : Int) < 8 := by omega
            obtain ⟨nm, hnm⟩ : ∃ x, drawNames[i]? = some x := ⟨_, List.getElem?_eq_getElem (show i < drawNames.length from hi)⟩
            have hs4 : nm.size ≤ 4 := drawNames_le nm (List.mem_of_getElem? hnm)
            have HNM := hide hnm
            have HDS := hide (fun W => show OwC W ([nm].flatMap strC) [.string nm] [] from ⟨[], [], ⟨rfl, show nm.size ≤ maxLen by (unfold maxLen; omega), rfl⟩, rfl, rfl⟩)
            have HN1 := hide (fun (W : World) (hE : WiE ys B2 d2 f3 nb C g w W) => show W.cell? ⟨nb, i, none⟩ = some (.string nm) from by rw [hE.nm.cell i, List.getElem?_map, HNM.out]; rfl)
            clear hnm
            have n1 := HN1.out wr HEr.out
            have n2 := HEr.out.nm.lt
            have k1 := HDr.out.K.cell 1
            have kl := HDr.out.K.lt
            go_upto_region 14 with fail
            go_cut [63] from 47 to 64 (fun s63 wx => ∃ bb : Bool, s63 = .bool bb ∧ (bb = true → j < ns.length) ∧ KAtX wx (w.heap.size + 1 + 1) C 5 (.slice C1 m1 e1) ns' us1 (.slice C2 m2 e2) ks' us2 fi2 ∧ WiD 5 ns ks A1 c1 A2 c2 f1 f2 g L w wx kx ∧ WiE ys B2 d2 f3 nb C g w wx)
            case first =>
              have HTa := hide (HTr.out.drewN 1)
              have HDa := hide (HDr.out.low (below_drewN (Below.refl wr.heap.size wr) 1) (by have := HTr.out.box.lt; omega))
              have HEa := hide (HEr.out.low (below_drewN (Below.refl wr.heap.size wr) 1) HEr.out.sz)
              by_cases hjl : j < ns.length
              · have hjli : (j : Int) < (ns.length : Int) := by omega
                obtain ⟨gm, om, rfl, hgm, pn, hxs⟩ := name_cell HDr.out.o1 hjl
                have pl := cell_lt pn
                generalize ns[j] = x at *
                clear hgm hxs
                go_quiet (fail)
                go_wp2_with fail
                go_meet
                exact ⟨_, rfl, fun _ => hjl, HTr.out.drewN _, HDr.out.low (below_drewN (Below.refl wr.heap.size wr) _) (by have := HTr.out.box.lt; omega), HEr.out.low (below_drewN (Below.refl wr.heap.size wr) _) HEr.out.sz⟩
              · have hjli : ¬ ((j : Int) < (ns.length : Int)) := by omega
                go_quiet (fail)
                go_wp2_with fail
                go_meet
                exact ⟨false, rfl, (fun h => by cases h), HTr.out.drewN _, HDr.out.low (below_drewN (Below.refl wr.heap.size wr) _) (by have := HTr.out.box.lt; omega), HEr.out.low (below_drewN (Below.refl wr.heap.size wr) _) HEr.out.sz⟩
            case rest =>
              obtain ⟨wq, rfl⟩ : ∃ W, W = wc := ⟨_, rfl⟩
              obtain ⟨bb, rfl, hb1, hT, hD, hE⟩ := hcut
              have HTq := hide hT
              have HDq := hide hD
              have HEq := hide hE
              clear hT hD hE HTr HDr HEr n1 n2 k1 kl
              rcases bb with _ | _
              · clear hb1
                have HC := hide (pick_any HDq.out.rd (n := 9) (by omega) (by omega) (by omega))
                go_wp2_with fail
                refine HC.out.mono ?_
                rintro e w5 ⟨r, rfl, hr9, h5, hg5⟩
                have HDp := hide (HDq.out.tick hg5 h5)
                have HTp := hide (HTq.out.far hg5 (by omega))
                have HEp := hide (HEq.out.tick hg5)
                clear h5 hg5 HC HDq HTq HEq
                by_cases hr0 : r = 0
                rotate_left
                · have hr0i : ¬ ((r : Int) = 0) := by omega
                  go_wp2
                  go_roundw
                  case rel => exact ⟨i + 1, j, C1, m1, e1, ns', us1, C2, m2, e2, ks', us2, fi2, kx + 1, rfl, by go_num, HTp.out, HDp.out, HEp.out, by omega, hjn, by omega, by omega, by have := HBS.out; omega, by have := HBK.out; omega, by omega⟩
                  case measure => simp [intOf] <;> omega
                · subst hr0
                  have n1 := HN1.out w5 HEp.out
                  have n2 := HEp.out.nm.lt
                  have t1 : w5.cell? ⟨w.heap.size + 1 + 1, 1, none⟩ = some (.slice C1 m1 e1) := HTp.out.box.cell 1
                  have lb := HTp.out.box.lt
                  have HT2 := hide ((HTp.out.drewN 1).alloc (.cells #[.string nm] 9))
                  have hszc : C ≤ w5.heap.size := HEp.out.sz
                  have HSZ := hide (show C ≤ ((w5.drewN 1).alloc (.cells #[.string nm] 9)).heap.size by rw [World.size_alloc]; exact Nat.le_succ_of_le hszc)
                  go_upto_region 19 with fail
                  go_cut [] from 87 to 96 (fun wx => ∃ (D1 : Option Addr) (pn1 qn1 : Nat) (us1' : List Value), KAtX wx (w.heap.size + 1 + 1) C 5 (.slice D1 pn1 qn1) (ns' ++ [nm]) us1' (.slice C2 m2 e2) ks' us2 fi2 ∧ WiD 5 ns ks A1 c1 A2 c2 f1 f2 g L w wx (kx + 1) ∧ WiE ys B2 d2 f3 nb C g w wx)
                  case first =>
                    go_region_law (first | (refine step_appX (by rfl) _ _ 23 (by rfl) ia _ 16 Tryz.underlying23 HIa.out ha0 ha1 ha2 rfl (by decide) strC_len (by rfl) HT2.out.one [nm] (HDS.out _) (by exact NewX.nil _ _) (fun g _ hg => by cases hg) _ 1 1 (by rfl) rfl (SrcAt.new (w5.drewN 1) _ _ _ _) (by omega) (by decide) HSZ.out ?_; intro A' n' c' wn hn5 hown5 hgb5; have HG5 := hide hgb5; have HN5 := hide hown5; have r5 := HT2.out.row1 hgb5; have q5 : wn.cell? ⟨w.heap.size + 1 + 1, 1, none⟩ = some (.slice C1 m1 e1) := r5.cell 1; have f5 : wn.frozen? ⟨w.heap.size + 1 + 1, 1, none⟩ = false := r5.frozen 1; have HNN5 := hide hn5; clear hown5 hgb5 r5 hn5))
                    all_goals
                      have HTP := hide (HT2.out.put1 HG5.out HN5.out)
                      have hbz : Below w5.heap.size w5 ((w5.drewN 1).alloc (.cells #[.string nm] 9)) := (below_drewN (Below.refl _ w5) 1).alloc (Nat.le_refl _) _
                      have hfr : ∀ u, Below (w.heap.size + 1 + 1) w5 (wn.setCell ⟨w.heap.size + 1 + 1, 1, none⟩ u) := fun u => (hbz.mono (Nat.le_of_lt lb)).trans (HT2.out.frame1 HG5.out HSZ.out 1 u (Nat.le_refl _))
                      have HKE2 := hide (show ∀ u, WiE ys B2 d2 f3 nb C g w (wn.setCell ⟨w.heap.size + 1 + 1, 1, none⟩ u) from fun u => HEp.out.keep (fun q hq hne => (HT2.out.keep1 HG5.out HSZ.out 1 u hq hne).trans (hbz.block q (by omega))) (hfr u).size)
                      go_wp2_with fail
                      go_meet
                      exact ⟨A', n', c', us1 ++ [.string nm], HTP.out, HDp.out.low (hfr _) (Nat.le_refl _), HKE2.out _⟩
                  case rest =>
                    clear t1 lb HT2 HSZ n1 n2 hszc HTp HDp HEp
                    obtain ⟨w6, rfl⟩ : ∃ W, W = wc := ⟨_, rfl⟩
                    obtain ⟨D1, pn1, qn1, us1', hT, hD, hE⟩ := hcut
                    have HTs := hide hT
                    have HDs := hide hD
                    have HEs := hide hE
                    clear hT hD hE
                    have t2 : w6.cell? ⟨w.heap.size + 1 + 1, 2, none⟩ = some (.slice C2 m2 e2) := HTs.out.box.cell 2
                    have lb6 := HTs.out.box.lt
                    have hsz6 : C ≤ w6.heap.size := HEs.out.sz
                    have HKD := hide (dKind_any 2 (by omega) (by omega) L (kx + 1) g false w6.drew (HDs.out.rd.drewN 1) (by rw [DM2]; omega))
                    have HLB := hide (show ks'.length + 1 ≤ 1099511627776 from by omega)
                    go_wp2
                    go_region_law (first | (refine step_appX (by rfl) _ _ 36 (by rfl) ib _ 56 Tryz.underlying36 HIb.out hb0 hb1 hb2 rfl (by decide) Kind.cells_len (by rfl) HT9.out.two [Kind.mk 6 [] [x]] HXO.out HNA.out HNO.out _ 1 1 (by rfl) rfl HSR.out HLB.out (by decide) HSB.out ?_; intro A' n' c' wa hna howna hgba; have HGa := hide hgba; have HNa := hide howna; have ra := HT9.out.row2 hgba; have qa : wa.cell? ⟨w.heap.size + 1 + 1, 2, none⟩ = some (.slice C2 m2 e2) := ra.cell 2; have fa : wa.frozen? ⟨w.heap.size + 1 + 1, 2, none⟩ = false := ra.frozen 2; have HNNa := hide hna; clear howna hgba ra hna) | (go_simp; go_at_call 107; have hh := HKD.out; refine hh.mono ?_; clear hh; rintro e w7 ⟨x, us7, fq7, k7, rfl, ho7, hn7, hx7, hk7, hr7, hg7⟩; obtain ⟨E1, e1_, E2, e2_, g1, g2, hus, k0, k1, k2, efq⟩ := (id ho7).oKind; subst hus; have HT7 := hide ((HTs.out.drewN 1).far hg7 (by omega)); have hs7 : w6.heap.size ≤ w7.heap.size := hg7.size; have hnew := wnew HT7.out ho7 (show New w7 fq7 w6.heap.size from hn7) (fun g e => HTs.out.one.lt g e) (fun g e => HTs.out.two.lt g e) hsz6 hs7; obtain ⟨hT9, hXO, hNA, hNO, hSB, hSR, hPF⟩ := hnew; have HT9 := hide hT9; have HXO := hide hXO; have HNA := hide hNA; have HNO := hide hNO; have HSB := hide hSB; have HSR := hide hSR; have HPF := hide hPF; have HX7 := hide hx7; have HK7 := hide hk7; have HDt := hide ((HDs.out.low (below_drewN (Below.refl w6.heap.size w6) 1) (by omega)).tick hg7 hr7); have HEt := hide ((HEs.out.low (below_drewN (Below.refl w6.heap.size w6) 1) hsz6).tick hg7); have t2c : w7.cell? ⟨w.heap.size + 1 + 1, 2, none⟩ = some (.slice C2 m2 e2) := HT7.out.box.cell 2; have lt7 := HT7.out.box.lt; have t2d : ((w7.alloc (.cells #[.int .i64 x.sort, .slice E1 x.names.length e1_, .slice E2 x.kids.length e2_] 38)).alloc (.cells #[.int .i64 6, .slice none 0 0, .slice (some ⟨w7.heap.size, 0, none⟩) 1 1] 38)).cell? ⟨w.heap.size + 1 + 1, 2, none⟩ = some (.slice C2 m2 e2) := HT9.out.box.cell 2; clear ho7 hn7 hx7 hk7 hr7 hg7 k1 k2 efq hT9 hXO hNA hNO hSB hSR hPF))
                    all_goals
                      have hbz : Below w7.heap.size w7 ((w7.alloc (.cells #[.int .i64 x.sort, .slice E1 x.names.length e1_, .slice E2 x.kids.length e2_] 38)).alloc (.cells #[.int .i64 6, .slice none 0 0, .slice (some ⟨w7.heap.size, 0, none⟩) 1 1] 38)) := ((Below.refl w7.heap.size w7).alloc (Nat.le_refl _) _).alloc (by rw [World.size_alloc]; exact Nat.le_succ _) _
                      have HTz := hide (HT9.out.put2 HGa.out HNa.out HPF.out)
                      have HDz := hide (fun u => show WiD 5 ns ks A1 c1 A2 c2 f1 f2 g L w (wa.setCell ⟨w.heap.size + 1 + 1, 2, none⟩ u) k7 from (HDt.out.low hbz (Nat.le_of_lt lt7)).low (HT9.out.frame2 HGa.out HSB.out 2 u (Nat.le_refl _)) (Nat.le_refl _))
                      have HEz := hide (fun u => show WiE ys B2 d2 f3 nb C g w (wa.setCell ⟨w.heap.size + 1 + 1, 2, none⟩ u) from (HEt.out.low hbz (by omega)).keep (fun q hq hne => HT9.out.keep2 HGa.out HSB.out 2 u hq hne) (HT9.out.frame2 HGa.out HSB.out 2 u (Nat.le_refl _)).size)
                      clear hbz
                      go_wp2
                      go_roundw
                      case rel => exact ⟨i + 1, j, D1, pn1, qn1, ns' ++ [nm], us1', A', n', c', ks' ++ [Kind.mk 6 [] [x]], _, _, k7, rfl, by go_num, HTz.out, HDz.out _, HEz.out _, by omega, hjn, by rw [List.length_append, List.length_singleton]; omega, by rw [List.length_append, List.length_singleton]; omega, by rw [bulkStrs_snoc]; have := HBS.out; omega, by rw [kbulkS_snoc, Kind.bulk_one]; have := HBK.out; have h := HX7.out; rw [DN2] at h; omega, by have h := HK7.out; rw [DM2] at h; omega⟩
                      case measure => simp [intOf] <;> omega
              · have hjl := hb1 rfl
                clear hb1
                have n1 := HN1.out wq HEq.out
                have n2 := HEq.out.nm.lt
                have t1 : wq.cell? ⟨w.heap.size + 1 + 1, 1, none⟩ = some (.slice C1 m1 e1) := HTq.out.box.cell 1
                have lb := HTq.out.box.lt
                have HT2 := hide ((HTq.out.drewN 1).alloc (.cells #[.string nm] 9))
                have hszc : C ≤ wq.heap.size := HEq.out.sz
                have HSZ := hide (show C ≤ ((wq.drewN 1).alloc (.cells #[.string nm] 9)).heap.size by rw [World.size_alloc]; exact Nat.le_succ_of_le hszc)
                go_upto_region 15 with fail
                go_cut [] from 64 to 73 (fun wx => ∃ (D1 : Option Addr) (pn1 qn1 : Nat) (us1' : List Value), KAtX wx (w.heap.size + 1 + 1) C 5 (.slice D1 pn1 qn1) (ns' ++ [nm]) us1' (.slice C2 m2 e2) ks' us2 fi2 ∧ WiD 5 ns ks A1 c1 A2 c2 f1 f2 g L w wx kx ∧ WiE ys B2 d2 f3 nb C g w wx)
                case first =>
                  go_region_law (first | (refine step_appX (by rfl) _ _ 23 (by rfl) ia _ 16 Tryz.underlying23 HIa.out ha0 ha1 ha2 rfl (by decide) strC_len (by rfl) HT2.out.one [nm] (HDS.out _) (by exact NewX.nil _ _) (fun g _ hg => by cases hg) _ 1 1 (by rfl) rfl (SrcAt.new (wq.drewN 1) _ _ _ _) (by omega) (by decide) HSZ.out ?_; intro A' n' c' wn hn5 hown5 hgb5; have HG5 := hide hgb5; have HN5 := hide hown5; have r5 := HT2.out.row1 hgb5; have q5 : wn.cell? ⟨w.heap.size + 1 + 1, 1, none⟩ = some (.slice C1 m1 e1) := r5.cell 1; have f5 : wn.frozen? ⟨w.heap.size + 1 + 1, 1, none⟩ = false := r5.frozen 1; have HNN5 := hide hn5; clear hown5 hgb5 r5 hn5))
                  all_goals
                    have HTP := hide (HT2.out.put1 HG5.out HN5.out)
                    have hbz : Below wq.heap.size wq ((wq.drewN 1).alloc (.cells #[.string nm] 9)) := (below_drewN (Below.refl _ wq) 1).alloc (Nat.le_refl _) _
                    have hfr : ∀ u, Below (w.heap.size + 1 + 1) wq (wn.setCell ⟨w.heap.size + 1 + 1, 1, none⟩ u) := fun u => (hbz.mono (Nat.le_of_lt lb)).trans (HT2.out.frame1 HG5.out HSZ.out 1 u (Nat.le_refl _))
                    have HKE2 := hide (show ∀ u, WiE ys B2 d2 f3 nb C g w (wn.setCell ⟨w.heap.size + 1 + 1, 1, none⟩ u) from fun u => HEq.out.keep (fun q hq hne => (HT2.out.keep1 HG5.out HSZ.out 1 u hq hne).trans (hbz.block q (by omega))) (hfr u).size)
                    go_wp2_with fail
                    go_meet
                    exact ⟨A', n', c', us1 ++ [.string nm], HTP.out, HDq.out.low (hfr _) (Nat.le_refl _), HKE2.out _⟩
                case rest =>
                  clear t1 lb HT2 HSZ n1 n2 hszc HTq HDq HEq
                  obtain ⟨w6, rfl⟩ : ∃ W, W = wc := ⟨_, rfl⟩
                  obtain ⟨D1, pn1, qn1, us1', hT, hD, hE⟩ := hcut
                  have HTs := hide hT
                  have HDs := hide hD
                  have HEs := hide hE
                  clear hT hD hE
                  have hjm : j < ys.length := by have := HYL.out; have := HNL5.out; omega
                  obtain ⟨gk, off, q0, q1, q2, fi, rfl, hgm, hfs, p0, p1, p2, hoy⟩ := kid_cells HEs.out.o3 hjm
                  have HBJ := hide (Kind.bulkS_snoc ys j hjm)
                  have pl := cell_lt p0
                  have t2 : w6.cell? ⟨w.heap.size + 1 + 1, 2, none⟩ = some (.slice C2 m2 e2) := HTs.out.box.cell 2
                  have lb6 := HTs.out.box.lt
                  have hsz6 : C ≤ w6.heap.size := HEs.out.sz
                  have hjmi : (j : Int) < (ys.length : Int) := by omega
                  have hj3 : j ≤ 100000 := by have := HNL5.out; have := HKL.out; have := HPE.out; omega
                  obtain ⟨hT9, hXO, hNA, hNO, hSB, hPF⟩ := wold HTs.out hoy (fun q hq => ⟨HEs.out.lo q (hfs hq), HEs.out.lt q (hfs hq)⟩) hsz6
                  have HT9 := hide hT9
                  have HXO := hide hXO
                  have HNA := hide hNA
                  have HNO := hide hNO
                  have HSB := hide hSB
                  have HPF := hide hPF
                  have HLB := hide (show ks'.length + 1 ≤ 1099511627776 from by omega)
                  clear hT9 hXO hNA hNO hSB hPF hoy hfs hgm
                  generalize ys[j] = y at *
                  go_wp2
                  go_region_law (first | (refine step_appX (by rfl) _ _ 36 (by rfl) ib _ 56 Tryz.underlying36 HIb.out hb0 hb1 hb2 rfl (by decide) Kind.cells_len (by rfl) HT9.out.two [y] HXO.out HNA.out HNO.out _ 1 1 (by rfl) rfl (SrcAt.new (w6.drewN 1) _ _ _ _) HLB.out (by decide) HSB.out ?_; intro A' n' c' wa hna howna hgba; have HGa := hide hgba; have HNa := hide howna; have ra := HT9.out.row2 hgba; have qa : wa.cell? ⟨w.heap.size + 1 + 1, 2, none⟩ = some (.slice C2 m2 e2) := ra.cell 2; have fa : wa.frozen? ⟨w.heap.size + 1 + 1, 2, none⟩ = false := ra.frozen 2; have HNNa := hide hna; clear howna hgba ra hna))
                  all_goals
                    have hbz : Below w6.heap.size w6 ((w6.drewN 1).alloc (.cells #[q0, q1, q2] 38)) := (below_drewN (Below.refl _ w6) 1).alloc (Nat.le_refl _) _
                    have HTz := hide (HT9.out.put2 HGa.out HNa.out HPF.out)
                    have HDz := hide (fun u => show WiD 5 ns ks A1 c1 A2 c2 f1 f2 g L w (wa.setCell ⟨w.heap.size + 1 + 1, 2, none⟩ u) kx from (HDs.out.low hbz (Nat.le_of_lt lb6)).low (HT9.out.frame2 HGa.out HSB.out 2 u (Nat.le_refl _)) (Nat.le_refl _))
                    have HEz := hide (fun u => show WiE ys (some ⟨gk, off, none⟩) d2 f3 nb C g w (wa.setCell ⟨w.heap.size + 1 + 1, 2, none⟩ u) from (HEs.out.low hbz hsz6).keep (fun q hq hne => HT9.out.keep2 HGa.out HSB.out 2 u hq hne) (HT9.out.frame2 HGa.out HSB.out 2 u (Nat.le_refl _)).size)
                    clear hbz p0 p1 p2 pl
                    go_wp2
                    go_roundw
                    case rel => exact ⟨i + 1, j + 1, D1, pn1, qn1, ns' ++ [nm], us1', A', n', c', ks' ++ [y], _, _, kx, by go_num, by go_num, HTz.out, HDz.out _, HEz.out _, by omega, by omega, by rw [List.length_append, List.length_singleton]; omega, by rw [List.length_append, List.length_singleton]; omega, by rw [bulkStrs_snoc]; have := HBS.out; omega, by rw [kbulkS_snoc, HBJ.out]; have := HBK.out; omega, by omega⟩
                    case measure => simp [intOf] <;> omega
    · have hji : (j : Int) < (ks.length : Int) := by omega
      obtain ⟨gk, off, q0, q1, q2, fi, rfl, hgm, hfs, p0, p1, p2, hoy⟩ := kid_cells HDr.out.o2 hj
      have hmem : ks[j] ∈ ks := List.getElem_mem hj
      have hgd : ks[j].good (lv + 1) := Kind.goodS_at HGK.out hj
      have HTA := hide (show Kind.partsS (ks.take (j + 1)) = Kind.partsS (ks.take j) + ks[j].parts ∧ Kind.partsS (ks.take (j + 1)) ≤ Kind.partsS ks from ⟨Kind.partsS_snoc ks j hj, Kind.partsS_le ks _⟩)
      have HOY := hide (show OwC wr.drew ks[j].cells [q0, q1, q2] fi from hoy.below (below_drewN (Below.refl wr.heap.size wr) 1) (fun b hb => Nat.lt_of_lt_of_le (HDr.out.lt.right b (hfs hb)) HDr.out.gr.size))
      have hgk := HDr.out.lt.right gk hgm
      have hgkg : gk ≠ g := fun e => HDr.out.ng (List.mem_append_right _ (e ▸ hgm))
      have HKC := hide (fun (W : World) (hO : OwC W ks[j].cells [q0, q1, q2] fi) (hs : w.heap.size ≤ W.heap.size) (hr : RdD W g L kx) => show Calls Tryz.prog 57 #[.pointer (some ⟨g, 0, none⟩), .agg #[q0, q1, q2]] W (WDraw g L kx (2000 * ks[j].parts) (2000 * ks[j].parts) W) from
        HIH.out ks[j] hmem [q0, q1, q2] fi L kx g (lv + 1) W hO (fun b hb => Nat.lt_of_lt_of_le (HDr.out.lt.right b (hfs hb)) hs) hgd (fun hm => HDr.out.ng (List.mem_append_right _ (hfs hm))) hr (by have := HPE.out; have := HTA.out; have := HKX.out; omega) (by have := HPE.out; have := HTA.out; omega))
      have hts : ys.length ≤ 1000000 := by have := HYL.out; have := HKL.out; have := HPE.out; omega
      clear hoy hfs hgm hmem hgd
      generalize ks[j] = y at *
      have hq0 : Below wr.heap.size wr wr.drew := below_drewN (Below.refl _ _) 1
      have HDa := hide (HDr.out.low hq0 (by have := HTr.out.box.lt; omega))
      have HTa := hide (show KAtX wr.drew (w.heap.size + 1 + 1) (w.heap.size + 1 + 1 + 1) s (.slice none 0 0) [] [] (.slice B2 n2 d2) ys us2 fi2 from HTr.out.drewN 1)
      have hS0 : wr.drew.cell? ⟨w.heap.size, 2, none⟩ = some (.slice (some ⟨gk, off, none⟩) ks.length c2) ∧ wr.drew.cell? ⟨gk, off + j * 3, none⟩ = some q0 ∧ wr.drew.cell? ⟨gk, off + j * 3 + 1, none⟩ = some q1 ∧ wr.drew.cell? ⟨gk, off + j * 3 + 2, none⟩ = some q2 := ⟨(hq0.cell (cell_lt k2)).trans k2, (hq0.cell (cell_lt p0)).trans p0, (hq0.cell (cell_lt p1)).trans p1, (hq0.cell (cell_lt p2)).trans p2⟩
      go_wp2_with fail
      refine wp_region_held_drew (S := fun W => W.cell? ⟨w.heap.size, 2, none⟩ = some (.slice (some ⟨gk, off, none⟩) ks.length c2) ∧ W.cell? ⟨gk, off + j * 3, none⟩ = some q0 ∧ W.cell? ⟨gk, off + j * 3 + 1, none⟩ = some q1 ∧ W.cell? ⟨gk, off + j * 3 + 2, none⟩ = some q2) (by kernel_rfl) hS0 (fun _ => ?_)
      clear hq0
      generalize wr.drew = w6 at *
      refine wpAnyH_take (i := 0) (v := .pointer (some ⟨w.heap.size + 1 + 1, 2, none⟩)) rfl (by kernel_rfl) (by kernel_rfl) (by kernel_rfl) (fun _ _ _ h => h) (Or.inl ⟨by kernel_rfl, by (intro W hS; go_simp; first | done | with_reducible rfl | rfl)⟩) hS0 ?_
      (try simp only [Act.put, List.getElem_toArray, List.getElem_cons_zero, List.getElem_cons_succ, List.setIfInBounds_toArray, List.set_cons_zero, List.set_cons_succ])
      refine wpAnyH_take (i := 2) (v := .pointer (some ⟨g, 0, none⟩)) rfl (by kernel_rfl) (by kernel_rfl) (by kernel_rfl) (fun _ _ _ h => h) (Or.inl ⟨by kernel_rfl, by (intro W hS; go_simp; first | done | with_reducible rfl | rfl)⟩) hS0 ?_
      (try simp only [Act.put, List.getElem_toArray, List.getElem_cons_zero, List.getElem_cons_succ, List.setIfInBounds_toArray, List.set_cons_zero, List.set_cons_succ])
      refine wpAnyH_take (i := 3) (v := .pointer (some ⟨w.heap.size, 2, none⟩)) rfl (by kernel_rfl) (by kernel_rfl) (by kernel_rfl) (fun _ _ _ h => h) (Or.inl ⟨by kernel_rfl, by (intro W hS; go_simp; first | done | with_reducible rfl | rfl)⟩) hS0 ?_
      (try simp only [Act.put, List.getElem_toArray, List.getElem_cons_zero, List.getElem_cons_succ, List.setIfInBounds_toArray, List.set_cons_zero, List.set_cons_succ])
      refine wpAnyH_take (i := 4) (v := .slice (some ⟨gk, off, none⟩) ks.length c2) rfl (by kernel_rfl) (by kernel_rfl) (by kernel_rfl) (fun _ _ _ h => h) (Or.inl ⟨by kernel_rfl, by (intro W hS; have y := hS.1; have yl := cell_lt y; go_simp; first | done | with_reducible rfl | rfl)⟩) hS0 ?_
      (try simp only [Act.put, List.getElem_toArray, List.getElem_cons_zero, List.getElem_cons_succ, List.setIfInBounds_toArray, List.set_cons_zero, List.set_cons_succ])
      refine wpAnyH_take (i := 5) (v := .int .i64 (j : Int)) rfl (by kernel_rfl) (by kernel_rfl) (by kernel_rfl) (fun _ _ _ h => h) (Or.inl ⟨by kernel_rfl, by (intro W hS; go_simp; first | done | with_reducible rfl | rfl)⟩) hS0 ?_
      (try simp only [Act.put, List.getElem_toArray, List.getElem_cons_zero, List.getElem_cons_succ, List.setIfInBounds_toArray, List.set_cons_zero, List.set_cons_succ])
      refine wpAnyH_take (i := 6) (v := .pointer (some ⟨gk, off + j * 3, none⟩)) rfl (by kernel_rfl) (by kernel_rfl) (by kernel_rfl) (fun _ _ _ h => h) (Or.inl ⟨by kernel_rfl, by (intro W hS; go_simp; first | done | with_reducible rfl | rfl)⟩) hS0 ?_
      (try simp only [Act.put, List.getElem_toArray, List.getElem_cons_zero, List.getElem_cons_succ, List.setIfInBounds_toArray, List.set_cons_zero, List.set_cons_succ])
      refine wpAnyH_take (i := 7) (v := .agg #[q0, q1, q2]) rfl (by kernel_rfl) (by kernel_rfl) (by kernel_rfl) (fun _ _ _ h => h) (Or.inl ⟨by kernel_rfl, by (intro W hS; have y := hS.2.1; have yl := cell_lt y; have y1 := hS.2.2.1; have y2 := hS.2.2.2; go_simp; first | done | with_reducible rfl | rfl)⟩) hS0 ?_
      (try simp only [Act.put, List.getElem_toArray, List.getElem_cons_zero, List.getElem_cons_succ, List.setIfInBounds_toArray, List.set_cons_zero, List.set_cons_succ])
      have x0 := HTa.out.box.cell 2
      have xl := HTa.out.box.lt
      refine wpAnyH_ready (rs := [1, 8]) (by kernel_rfl) (by simp) ?_
      refine AllReadyH.cons rfl (fun K hK => ?_) ?_
      · skip
        go_simp
        refine hK.out _ _ hS0 (fun hHeld => ?_)
        clear hK K hHeld
        refine wpAnyH_ready (rs := [8]) (by kernel_rfl) (by simp) ?_
        refine AllReadyH.cons rfl (fun K hK => ?_) AllReadyH.nil
        go_simp
        go_at_call 57
        refine (HKC.out w6 HOY.out HDa.out.gr.size HDa.out.rd).mono ?_
        rintro e w7 ⟨t, us7, fq7, k7, rfl, ho7, hn7, hf7, hb7, hk7, hr7, hg7⟩
        obtain ⟨E1, e1, E2, e2, g1, g2, rfl, x0_, x1_, x2_, efq⟩ := ho7.oKind
        have hS1 : w7.cell? ⟨w.heap.size, 2, none⟩ = some (.slice (some ⟨gk, off, none⟩) ks.length c2) ∧ w7.cell? ⟨gk, off + j * 3, none⟩ = some q0 ∧ w7.cell? ⟨gk, off + j * 3 + 1, none⟩ = some q1 ∧ w7.cell? ⟨gk, off + j * 3 + 2, none⟩ = some q2 := ⟨cell_grD hg7 (hS0.1) (by omega), cell_grD hg7 (hS0.2.1) hgkg, cell_grD hg7 (hS0.2.2.1) hgkg, cell_grD hg7 (hS0.2.2.2) hgkg⟩
        have HDb := hide (HDa.out.tick hg7 hr7)
        have HTb := hide (HTa.out.far hg7 (by omega))
        have HO7 := hide ho7
        have HN7w := hide hn7
        have HN7f := hide hf7
        have HLT7 := hide (show w6.heap.size ≤ w7.heap.size from hg7.size)
        have y0 := HTb.out.box.cell 2
        have yl := HTb.out.box.lt
        clear ho7 hn7 hf7 hr7 x0_ x1_ x2_ efq
        try go_simp
        refine hK.out _ _ hS1 (fun hHeld => ?_)
        clear hK K hHeld hg7
        refine wpAnyH_ready (rs := [9]) (by kernel_rfl) (by simp) ?_
        refine AllReadyH.cons rfl (fun K hK => ?_) AllReadyH.nil
        have hq1 : Below w7.heap.size w7 (w7.alloc (.cells #[.int .i64 t.sort, .slice E1 t.names.length e1, .slice E2 t.kids.length e2] 38)) := (Below.refl _ _).alloc (Nat.le_refl _) _
        have hS2 : (w7.alloc (.cells #[.int .i64 t.sort, .slice E1 t.names.length e1, .slice E2 t.kids.length e2] 38)).cell? ⟨w.heap.size, 2, none⟩ = some (.slice (some ⟨gk, off, none⟩) ks.length c2) ∧ (w7.alloc (.cells #[.int .i64 t.sort, .slice E1 t.names.length e1, .slice E2 t.kids.length e2] 38)).cell? ⟨gk, off + j * 3, none⟩ = some q0 ∧ (w7.alloc (.cells #[.int .i64 t.sort, .slice E1 t.names.length e1, .slice E2 t.kids.length e2] 38)).cell? ⟨gk, off + j * 3 + 1, none⟩ = some q1 ∧ (w7.alloc (.cells #[.int .i64 t.sort, .slice E1 t.names.length e1, .slice E2 t.kids.length e2] 38)).cell? ⟨gk, off + j * 3 + 2, none⟩ = some q2 := ⟨(hq1.cell (cell_lt (hS1.1))).trans (hS1.1), (hq1.cell (cell_lt (hS1.2.1))).trans (hS1.2.1), (hq1.cell (cell_lt (hS1.2.2.1))).trans (hS1.2.2.1), (hq1.cell (cell_lt (hS1.2.2.2))).trans (hS1.2.2.2)⟩
        have HTc := hide (HTb.out.alloc (.cells #[.int .i64 t.sort, .slice E1 t.names.length e1, .slice E2 t.kids.length e2] 38))
        have hszc : w.heap.size + 1 + 1 + 1 ≤ (w7.alloc (.cells #[.int .i64 t.sort, .slice E1 t.names.length e1, .slice E2 t.kids.length e2] 38)).heap.size := by have := HTb.out.box.lt; rw [World.size_alloc]; omega
        have HO7c := hide (HO7.out.alloc HN7w.out (.cells #[.int .i64 t.sort, .slice E1 t.names.length e1, .slice E2 t.kids.length e2] 38))
        go_simp
        refine hK.out _ _ hS2 (fun hHeld => ?_)
        clear hK K hHeld
        refine wpAnyH_ready (rs := [10]) (by kernel_rfl) (by simp) ?_
        refine AllReadyH.cons rfl (fun K hK => ?_) AllReadyH.nil
        refine step_appX (by rfl) _ _ 36 (by rfl) ib _ 56 Tryz.underlying36 HIb.out hb0 hb1 hb2 rfl (by decide) Kind.cells_len (by rfl) HTc.out.two [t] (by rw [List.flatMap_singleton]; exact HO7c.out) ⟨Lt.app HTc.out.two.new.lt (HN7w.out.alloc _)⟩ (fun g e hm => by (have k1 := HTa.out.two.lt g e); (have k2 := (HN7f.out g hm)); exact absurd k1 (Nat.not_lt.2 k2)) _ 1 1 (by rfl) rfl (SrcAt.new w7 _ _ _ _) (by omega) (by decide) hszc ?_
        intro A8 n8 c8 w8 hn8 hown8 hgb8
        clear hn8
        have r8 := HTc.out.row2 hgb8
        have x8 := r8.cell 2
        have f8 := r8.frozen 2
        have l8 := r8.lt
        have hS3 : w8.cell? ⟨w.heap.size, 2, none⟩ = some (.slice (some ⟨gk, off, none⟩) ks.length c2) ∧ w8.cell? ⟨gk, off + j * 3, none⟩ = some q0 ∧ w8.cell? ⟨gk, off + j * 3 + 1, none⟩ = some q1 ∧ w8.cell? ⟨gk, off + j * 3 + 2, none⟩ = some q2 := ⟨cell_gbD hgb8 (hS2.1) (HTc.out.two.low (by omega)), cell_gbD hgb8 (hS2.2.1) (HTc.out.two.low (by omega)), cell_gbD hgb8 (hS2.2.2.1) (HTc.out.two.low (by omega)), cell_gbD hgb8 (hS2.2.2.2) (HTc.out.two.low (by omega))⟩
        have hS4 : (w8.setCell ⟨w.heap.size + 1 + 1, 2, none⟩ (.slice A8 n8 c8)).cell? ⟨w.heap.size, 2, none⟩ = some (.slice (some ⟨gk, off, none⟩) ks.length c2) ∧ (w8.setCell ⟨w.heap.size + 1 + 1, 2, none⟩ (.slice A8 n8 c8)).cell? ⟨gk, off + j * 3, none⟩ = some q0 ∧ (w8.setCell ⟨w.heap.size + 1 + 1, 2, none⟩ (.slice A8 n8 c8)).cell? ⟨gk, off + j * 3 + 1, none⟩ = some q1 ∧ (w8.setCell ⟨w.heap.size + 1 + 1, 2, none⟩ (.slice A8 n8 c8)).cell? ⟨gk, off + j * 3 + 2, none⟩ = some q2 := ⟨cell_setD (hS3.1) (by omega), cell_setD (hS3.2.1) (by omega), cell_setD (hS3.2.2.1) (by omega), cell_setD (hS3.2.2.2) (by omega)⟩
        have HTz := hide (show KAtX (w8.setCell ⟨w.heap.size + 1 + 1, 2, none⟩ (.slice A8 n8 c8)) (w.heap.size + 1 + 1) (w.heap.size + 1 + 1 + 1) s (.slice none 0 0) [] [] (.slice A8 n8 c8) (ys ++ [t]) (us2 ++ [.int .i64 t.sort, .slice E1 t.names.length e1, .slice E2 t.kids.length e2]) (fi2 ++ fq7) from HTc.out.put2 hgb8 hown8 (fun g hg => by
            rcases List.mem_append.1 hg with hg | hg
            · exact ⟨HTa.out.lo g hg, fun h => by cases h⟩
            · have h1 := HN7f.out g hg
              have h2 := HTa.out.box.lt
              exact ⟨by omega, fun h => by cases h⟩))
        have HDz := hide (HDb.out.low (B := w.heap.size + 1 + 1) ((hq1.mono (by omega)).trans (HTc.out.frame2 hgb8 hszc 2 (.slice A8 n8 c8) (Nat.le_refl _))) (Nat.le_refl _))
        refine hK.out _ _ hS3 (fun hHeld => ?_)
        clear hK K hHeld
        refine wpAnyH_take (i := 11) (v := .pointer (some ⟨w.heap.size + 1 + 1, 2, none⟩)) rfl (by kernel_rfl) (by kernel_rfl) (by kernel_rfl) (fun _ _ _ h => h) (Or.inl ⟨by kernel_rfl, by (intro W hS; go_simp; first | done | with_reducible rfl | rfl)⟩) hS3 ?_
        (try simp only [Act.put, List.getElem_toArray, List.getElem_cons_zero, List.getElem_cons_succ, List.setIfInBounds_toArray, List.set_cons_zero, List.set_cons_succ])
        refine wpAnyH_ready (rs := [12]) (by kernel_rfl) (by simp) ?_
        refine AllReadyH.cons rfl (fun K hK => ?_) AllReadyH.nil
        go_simp
        refine hK.out _ _ hS4 (fun hHeld => ?_)
        clear hK K hHeld hS0 hS2 hS3 hS4 x8 f8 l8 r8 hown8 hgb8 hq1
        refine wpAnyH_done (by kernel_rfl) ?_ _
        generalize (World.setCell _ _ _) = wz at HTz HDz ⊢
        clear HTa HDa HTc HTb HDb HO7 HN7w HN7f HO7c HOY HKC
        have hb1 := HBK.out
        have hk1_ := HKX.out
        have hta := HTA.out
        have hyl_ := HYL.out
        go_wp2
        go_roundw
        case rel => exact ⟨j + 1, ys ++ [t], A8, n8, c8, _, _, k7, by go_num, HTz.out, HDz.out, hj, by rw [List.length_append, List.length_singleton, hyl_], by rw [kbulkS_snoc, List.length_append, List.length_singleton]; omega, by omega⟩
        case measure => simp [intOf] <;> omega
      · refine AllReadyH.cons rfl (fun K hK => ?_) AllReadyH.nil
        go_simp
        go_at_call 57
        refine (HKC.out w6 HOY.out HDa.out.gr.size HDa.out.rd).mono ?_
        rintro e w7 ⟨t, us7, fq7, k7, rfl, ho7, hn7, hf7, hb7, hk7, hr7, hg7⟩
        obtain ⟨E1, e1, E2, e2, g1, g2, rfl, x0_, x1_, x2_, efq⟩ := ho7.oKind
        have hS1 : w7.cell? ⟨w.heap.size, 2, none⟩ = some (.slice (some ⟨gk, off, none⟩) ks.length c2) ∧ w7.cell? ⟨gk, off + j * 3, none⟩ = some q0 ∧ w7.cell? ⟨gk, off + j * 3 + 1, none⟩ = some q1 ∧ w7.cell? ⟨gk, off + j * 3 + 2, none⟩ = some q2 := ⟨cell_grD hg7 (hS0.1) (by omega), cell_grD hg7 (hS0.2.1) hgkg, cell_grD hg7 (hS0.2.2.1) hgkg, cell_grD hg7 (hS0.2.2.2) hgkg⟩
        have HDb := hide (HDa.out.tick hg7 hr7)
        have HTb := hide (HTa.out.far hg7 (by omega))
        have HO7 := hide ho7
        have HN7w := hide hn7
        have HN7f := hide hf7
        have HLT7 := hide (show w6.heap.size ≤ w7.heap.size from hg7.size)
        have y0 := HTb.out.box.cell 2
        have yl := HTb.out.box.lt
        clear ho7 hn7 hf7 hr7 x0_ x1_ x2_ efq
        try go_simp
        refine hK.out _ _ hS1 (fun hHeld => ?_)
        clear hK K hHeld hg7
        refine wpAnyH_ready (rs := [1, 9]) (by kernel_rfl) (by simp) ?_
        refine AllReadyH.cons rfl (fun K hK => ?_) ?_
        · skip
          go_simp
          refine hK.out _ _ hS1 (fun hHeld => ?_)
          clear hK K hHeld
          refine wpAnyH_ready (rs := [9]) (by kernel_rfl) (by simp) ?_
          refine AllReadyH.cons rfl (fun K hK => ?_) AllReadyH.nil
          have hq1 : Below w7.heap.size w7 (w7.alloc (.cells #[.int .i64 t.sort, .slice E1 t.names.length e1, .slice E2 t.kids.length e2] 38)) := (Below.refl _ _).alloc (Nat.le_refl _) _
          have hS2 : (w7.alloc (.cells #[.int .i64 t.sort, .slice E1 t.names.length e1, .slice E2 t.kids.length e2] 38)).cell? ⟨w.heap.size, 2, none⟩ = some (.slice (some ⟨gk, off, none⟩) ks.length c2) ∧ (w7.alloc (.cells #[.int .i64 t.sort, .slice E1 t.names.length e1, .slice E2 t.kids.length e2] 38)).cell? ⟨gk, off + j * 3, none⟩ = some q0 ∧ (w7.alloc (.cells #[.int .i64 t.sort, .slice E1 t.names.length e1, .slice E2 t.kids.length e2] 38)).cell? ⟨gk, off + j * 3 + 1, none⟩ = some q1 ∧ (w7.alloc (.cells #[.int .i64 t.sort, .slice E1 t.names.length e1, .slice E2 t.kids.length e2] 38)).cell? ⟨gk, off + j * 3 + 2, none⟩ = some q2 := ⟨(hq1.cell (cell_lt (hS1.1))).trans (hS1.1), (hq1.cell (cell_lt (hS1.2.1))).trans (hS1.2.1), (hq1.cell (cell_lt (hS1.2.2.1))).trans (hS1.2.2.1), (hq1.cell (cell_lt (hS1.2.2.2))).trans (hS1.2.2.2)⟩
          have HTc := hide (HTb.out.alloc (.cells #[.int .i64 t.sort, .slice E1 t.names.length e1, .slice E2 t.kids.length e2] 38))
          have hszc : w.heap.size + 1 + 1 + 1 ≤ (w7.alloc (.cells #[.int .i64 t.sort, .slice E1 t.names.length e1, .slice E2 t.kids.length e2] 38)).heap.size := by have := HTb.out.box.lt; rw [World.size_alloc]; omega
          have HO7c := hide (HO7.out.alloc HN7w.out (.cells #[.int .i64 t.sort, .slice E1 t.names.length e1, .slice E2 t.kids.length e2] 38))
          go_simp
          refine hK.out _ _ hS2 (fun hHeld => ?_)
          clear hK K hHeld
          refine wpAnyH_ready (rs := [10]) (by kernel_rfl) (by simp) ?_
          refine AllReadyH.cons rfl (fun K hK => ?_) AllReadyH.nil
          refine step_appX (by rfl) _ _ 36 (by rfl) ib _ 56 Tryz.underlying36 HIb.out hb0 hb1 hb2 rfl (by decide) Kind.cells_len (by rfl) HTc.out.two [t] (by rw [List.flatMap_singleton]; exact HO7c.out) ⟨Lt.app HTc.out.two.new.lt (HN7w.out.alloc _)⟩ (fun g e hm => by (have k1 := HTa.out.two.lt g e); (have k2 := (HN7f.out g hm)); exact absurd k1 (Nat.not_lt.2 k2)) _ 1 1 (by rfl) rfl (SrcAt.new w7 _ _ _ _) (by omega) (by decide) hszc ?_
          intro A8 n8 c8 w8 hn8 hown8 hgb8
          clear hn8
          have r8 := HTc.out.row2 hgb8
          have x8 := r8.cell 2
          have f8 := r8.frozen 2
          have l8 := r8.lt
          have hS3 : w8.cell? ⟨w.heap.size, 2, none⟩ = some (.slice (some ⟨gk, off, none⟩) ks.length c2) ∧ w8.cell? ⟨gk, off + j * 3, none⟩ = some q0 ∧ w8.cell? ⟨gk, off + j * 3 + 1, none⟩ = some q1 ∧ w8.cell? ⟨gk, off + j * 3 + 2, none⟩ = some q2 := ⟨cell_gbD hgb8 (hS2.1) (HTc.out.two.low (by omega)), cell_gbD hgb8 (hS2.2.1) (HTc.out.two.low (by omega)), cell_gbD hgb8 (hS2.2.2.1) (HTc.out.two.low (by omega)), cell_gbD hgb8 (hS2.2.2.2) (HTc.out.two.low (by omega))⟩
          have hS4 : (w8.setCell ⟨w.heap.size + 1 + 1, 2, none⟩ (.slice A8 n8 c8)).cell? ⟨w.heap.size, 2, none⟩ = some (.slice (some ⟨gk, off, none⟩) ks.length c2) ∧ (w8.setCell ⟨w.heap.size + 1 + 1, 2, none⟩ (.slice A8 n8 c8)).cell? ⟨gk, off + j * 3, none⟩ = some q0 ∧ (w8.setCell ⟨w.heap.size + 1 + 1, 2, none⟩ (.slice A8 n8 c8)).cell? ⟨gk, off + j * 3 + 1, none⟩ = some q1 ∧ (w8.setCell ⟨w.heap.size + 1 + 1, 2, none⟩ (.slice A8 n8 c8)).cell? ⟨gk, off + j * 3 + 2, none⟩ = some q2 := ⟨cell_setD (hS3.1) (by omega), cell_setD (hS3.2.1) (by omega), cell_setD (hS3.2.2.1) (by omega), cell_setD (hS3.2.2.2) (by omega)⟩
          have HTz := hide (show KAtX (w8.setCell ⟨w.heap.size + 1 + 1, 2, none⟩ (.slice A8 n8 c8)) (w.heap.size + 1 + 1) (w.heap.size + 1 + 1 + 1) s (.slice none 0 0) [] [] (.slice A8 n8 c8) (ys ++ [t]) (us2 ++ [.int .i64 t.sort, .slice E1 t.names.length e1, .slice E2 t.kids.length e2]) (fi2 ++ fq7) from HTc.out.put2 hgb8 hown8 (fun g hg => by
              rcases List.mem_append.1 hg with hg | hg
              · exact ⟨HTa.out.lo g hg, fun h => by cases h⟩
              · have h1 := HN7f.out g hg
                have h2 := HTa.out.box.lt
                exact ⟨by omega, fun h => by cases h⟩))
          have HDz := hide (HDb.out.low (B := w.heap.size + 1 + 1) ((hq1.mono (by omega)).trans (HTc.out.frame2 hgb8 hszc 2 (.slice A8 n8 c8) (Nat.le_refl _))) (Nat.le_refl _))
          refine hK.out _ _ hS3 (fun hHeld => ?_)
          clear hK K hHeld
          refine wpAnyH_take (i := 11) (v := .pointer (some ⟨w.heap.size + 1 + 1, 2, none⟩)) rfl (by kernel_rfl) (by kernel_rfl) (by kernel_rfl) (fun _ _ _ h => h) (Or.inl ⟨by kernel_rfl, by (intro W hS; go_simp; first | done | with_reducible rfl | rfl)⟩) hS3 ?_
          (try simp only [Act.put, List.getElem_toArray, List.getElem_cons_zero, List.getElem_cons_succ, List.setIfInBounds_toArray, List.set_cons_zero, List.set_cons_succ])
          refine wpAnyH_ready (rs := [12]) (by kernel_rfl) (by simp) ?_
          refine AllReadyH.cons rfl (fun K hK => ?_) AllReadyH.nil
          go_simp
          refine hK.out _ _ hS4 (fun hHeld => ?_)
          clear hK K hHeld hS0 hS2 hS3 hS4 x8 f8 l8 r8 hown8 hgb8 hq1
          refine wpAnyH_done (by kernel_rfl) ?_ _
          generalize (World.setCell _ _ _) = wz at HTz HDz ⊢
          clear HTa HDa HTc HTb HDb HO7 HN7w HN7f HO7c HOY HKC
          have hb1 := HBK.out
          have hk1_ := HKX.out
          have hta := HTA.out
          have hyl_ := HYL.out
          go_wp2
          go_roundw
          case rel => exact ⟨j + 1, ys ++ [t], A8, n8, c8, _, _, k7, by go_num, HTz.out, HDz.out, hj, by rw [List.length_append, List.length_singleton, hyl_], by rw [kbulkS_snoc, List.length_append, List.length_singleton]; omega, by omega⟩
          case measure => simp [intOf] <;> omega
        · refine AllReadyH.cons rfl (fun K hK => ?_) AllReadyH.nil
          have hq1 : Below w7.heap.size w7 (w7.alloc (.cells #[.int .i64 t.sort, .slice E1 t.names.length e1, .slice E2 t.kids.length e2] 38)) := (Below.refl _ _).alloc (Nat.le_refl _) _
          have hS2 : (w7.alloc (.cells #[.int .i64 t.sort, .slice E1 t.names.length e1, .slice E2 t.kids.length e2] 38)).cell? ⟨w.heap.size, 2, none⟩ = some (.slice (some ⟨gk, off, none⟩) ks.length c2) ∧ (w7.alloc (.cells #[.int .i64 t.sort, .slice E1 t.names.length e1, .slice E2 t.kids.length e2] 38)).cell? ⟨gk, off + j * 3, none⟩ = some q0 ∧ (w7.alloc (.cells #[.int .i64 t.sort, .slice E1 t.names.length e1, .slice E2 t.kids.length e2] 38)).cell? ⟨gk, off + j * 3 + 1, none⟩ = some q1 ∧ (w7.alloc (.cells #[.int .i64 t.sort, .slice E1 t.names.length e1, .slice E2 t.kids.length e2] 38)).cell? ⟨gk, off + j * 3 + 2, none⟩ = some q2 := ⟨(hq1.cell (cell_lt (hS1.1))).trans (hS1.1), (hq1.cell (cell_lt (hS1.2.1))).trans (hS1.2.1), (hq1.cell (cell_lt (hS1.2.2.1))).trans (hS1.2.2.1), (hq1.cell (cell_lt (hS1.2.2.2))).trans (hS1.2.2.2)⟩
          have HTc := hide (HTb.out.alloc (.cells #[.int .i64 t.sort, .slice E1 t.names.length e1, .slice E2 t.kids.length e2] 38))
          have hszc : w.heap.size + 1 + 1 + 1 ≤ (w7.alloc (.cells #[.int .i64 t.sort, .slice E1 t.names.length e1, .slice E2 t.kids.length e2] 38)).heap.size := by have := HTb.out.box.lt; rw [World.size_alloc]; omega
          have HO7c := hide (HO7.out.alloc HN7w.out (.cells #[.int .i64 t.sort, .slice E1 t.names.length e1, .slice E2 t.kids.length e2] 38))
          go_simp
          refine hK.out _ _ hS2 (fun hHeld => ?_)
          clear hK K hHeld
          have u0 := HTc.out.box.cell 2
          have ul := HTc.out.box.lt
          refine wpAnyH_ready (rs := [1]) (by kernel_rfl) (by simp) ?_
          refine AllReadyH.cons rfl (fun K hK => ?_) AllReadyH.nil
          go_simp
          refine hK.out _ _ hS2 (fun hHeld => ?_)
          clear hK K hHeld
          clear u0 ul
          refine wpAnyH_ready (rs := [10]) (by kernel_rfl) (by simp) ?_
          refine AllReadyH.cons rfl (fun K hK => ?_) AllReadyH.nil
          refine step_appX (by rfl) _ _ 36 (by rfl) ib _ 56 Tryz.underlying36 HIb.out hb0 hb1 hb2 rfl (by decide) Kind.cells_len (by rfl) HTc.out.two [t] (by rw [List.flatMap_singleton]; exact HO7c.out) ⟨Lt.app HTc.out.two.new.lt (HN7w.out.alloc _)⟩ (fun g e hm => by (have k1 := HTa.out.two.lt g e); (have k2 := (HN7f.out g hm)); exact absurd k1 (Nat.not_lt.2 k2)) _ 1 1 (by rfl) rfl (SrcAt.new w7 _ _ _ _) (by omega) (by decide) hszc ?_
          intro A8 n8 c8 w8 hn8 hown8 hgb8
          clear hn8
          have r8 := HTc.out.row2 hgb8
          have x8 := r8.cell 2
          have f8 := r8.frozen 2
          have l8 := r8.lt
          have hS3 : w8.cell? ⟨w.heap.size, 2, none⟩ = some (.slice (some ⟨gk, off, none⟩) ks.length c2) ∧ w8.cell? ⟨gk, off + j * 3, none⟩ = some q0 ∧ w8.cell? ⟨gk, off + j * 3 + 1, none⟩ = some q1 ∧ w8.cell? ⟨gk, off + j * 3 + 2, none⟩ = some q2 := ⟨cell_gbD hgb8 (hS2.1) (HTc.out.two.low (by omega)), cell_gbD hgb8 (hS2.2.1) (HTc.out.two.low (by omega)), cell_gbD hgb8 (hS2.2.2.1) (HTc.out.two.low (by omega)), cell_gbD hgb8 (hS2.2.2.2) (HTc.out.two.low (by omega))⟩
          have hS4 : (w8.setCell ⟨w.heap.size + 1 + 1, 2, none⟩ (.slice A8 n8 c8)).cell? ⟨w.heap.size, 2, none⟩ = some (.slice (some ⟨gk, off, none⟩) ks.length c2) ∧ (w8.setCell ⟨w.heap.size + 1 + 1, 2, none⟩ (.slice A8 n8 c8)).cell? ⟨gk, off + j * 3, none⟩ = some q0 ∧ (w8.setCell ⟨w.heap.size + 1 + 1, 2, none⟩ (.slice A8 n8 c8)).cell? ⟨gk, off + j * 3 + 1, none⟩ = some q1 ∧ (w8.setCell ⟨w.heap.size + 1 + 1, 2, none⟩ (.slice A8 n8 c8)).cell? ⟨gk, off + j * 3 + 2, none⟩ = some q2 := ⟨cell_setD (hS3.1) (by omega), cell_setD (hS3.2.1) (by omega), cell_setD (hS3.2.2.1) (by omega), cell_setD (hS3.2.2.2) (by omega)⟩
          have HTz := hide (show KAtX (w8.setCell ⟨w.heap.size + 1 + 1, 2, none⟩ (.slice A8 n8 c8)) (w.heap.size + 1 + 1) (w.heap.size + 1 + 1 + 1) s (.slice none 0 0) [] [] (.slice A8 n8 c8) (ys ++ [t]) (us2 ++ [.int .i64 t.sort, .slice E1 t.names.length e1, .slice E2 t.kids.length e2]) (fi2 ++ fq7) from HTc.out.put2 hgb8 hown8 (fun g hg => by
              rcases List.mem_append.1 hg with hg | hg
              · exact ⟨HTa.out.lo g hg, fun h => by cases h⟩
              · have h1 := HN7f.out g hg
                have h2 := HTa.out.box.lt
                exact ⟨by omega, fun h => by cases h⟩))
          have HDz := hide (HDb.out.low (B := w.heap.size + 1 + 1) ((hq1.mono (by omega)).trans (HTc.out.frame2 hgb8 hszc 2 (.slice A8 n8 c8) (Nat.le_refl _))) (Nat.le_refl _))
          refine hK.out _ _ hS3 (fun hHeld => ?_)
          clear hK K hHeld
          refine wpAnyH_take (i := 11) (v := .pointer (some ⟨w.heap.size + 1 + 1, 2, none⟩)) rfl (by kernel_rfl) (by kernel_rfl) (by kernel_rfl) (fun _ _ _ h => h) (Or.inl ⟨by kernel_rfl, by (intro W hS; go_simp; first | done | with_reducible rfl | rfl)⟩) hS3 ?_
          (try simp only [Act.put, List.getElem_toArray, List.getElem_cons_zero, List.getElem_cons_succ, List.setIfInBounds_toArray, List.set_cons_zero, List.set_cons_succ])
          refine wpAnyH_ready (rs := [12]) (by kernel_rfl) (by simp) ?_
          refine AllReadyH.cons rfl (fun K hK => ?_) AllReadyH.nil
          go_simp
          refine hK.out _ _ hS4 (fun hHeld => ?_)
          clear hK K hHeld hS0 hS2 hS3 hS4 x8 f8 l8 r8 hown8 hgb8 hq1
          refine wpAnyH_done (by kernel_rfl) ?_ _
          generalize (World.setCell _ _ _) = wz at HTz HDz ⊢
          clear HTa HDa HTc HTb HDb HO7 HN7w HN7f HO7c HOY HKC
          have hb1 := HBK.out
          have hk1_ := HKX.out
          have hta := HTA.out
          have hyl_ := HYL.out
          go_wp2
          go_roundw
          case rel => exact ⟨j + 1, ys ++ [t], A8, n8, c8, _, _, k7, by go_num, HTz.out, HDz.out, hj, by rw [List.length_append, List.length_singleton, hyl_], by rw [kbulkS_snoc, List.length_append, List.length_singleton]; omega, by omega⟩
          case measure => simp [intOf] <;> omega
theorem dWider_any (x : Kind) : DWider x := Kind.ind (fun k ih => by
  obtain ⟨s, ns, ks⟩ := k
  exact dWider_of s ns ks ih) x
end Go.Proofs.YtnaecdoeldoipaaGreatDoor
set_option linter.unusedVariables false
set_option linter.unusedSimpArgs false
namespace Go.Proofs.YtnaecdoeldoipaaGreatDoor
open Go.ChangeShapes Go.WideShapes Go.ChangeAt Go.RowKit

theorem set5 (u1 u2 : List Value) (p q r s t a b c d e : Value) : (((((u1 ++ ([p, q, r, s, t] ++ u2)).set u1.length a).set (u1.length + 1) b).set (u1.length + 1 + 1) c).set (u1.length + 1 + 1 + 1) d).set (u1.length + 1 + 1 + 1 + 1) e = u1 ++ ([a, b, c, d, e] ++ u2) := by
  rw [List.set_append_right _ _ (Nat.le_refl _), List.set_append_right _ _ (by omega), List.set_append_right _ _ (by omega), List.set_append_right _ _ (by omega), List.set_append_right _ _ (by omega)]
  simp [show u1.length + 1 + 1 - u1.length = 2 by omega, show u1.length + 1 + 1 + 1 - u1.length = 3 by omega, show u1.length + 1 + 1 + 1 + 1 - u1.length = 4 by omega]
theorem OwS.putAt5 {α : Type} {w : World} {B : Nat} {e : TypeId} {f : α → List D} {g n c : Nat} {l1 l2 : List α} {x y : α} {u1 u0 u2 ux : List Value} {f1 f0 f2 fx : List Nat}
    (h : OwS w B e 5 f (.slice (some ⟨g, 0, none⟩) n c) (l1 ++ x :: l2) (u1 ++ (u0 ++ u2)) (f1 ++ (f0 ++ f2)))
    (c1 : OwC w (l1.flatMap f) u1 f1) (c2 : OwC w (l2.flatMap f) u2 f2) (h0 : u0.length = 5) (hx : OwC w (f y) ux fx) (hxl : ux.length = 5) (hn : New w fx B)
    (hfx : ∀ b ∈ fx, b ∈ f0 ∨ (b ∉ f1 ∧ b ∉ f2 ∧ b ≠ g)) :
    OwS (putN w g u1.length ux) B e 5 f (.slice (some ⟨g, 0, none⟩) n c) (l1 ++ y :: l2) (u1 ++ (ux ++ u2)) (f1 ++ (fx ++ f2)) := by
  obtain ⟨p, q, r, s, t, rfl⟩ : ∃ p q r s t, u0 = [p, q, r, s, t] := by
    match u0, h0 with
    | [p, q, r, s, t], _ => exact ⟨p, q, r, s, t, rfl⟩
  obtain ⟨a, b, d, d1, d2, rfl⟩ : ∃ p q r s t, ux = [p, q, r, s, t] := by
    match ux, hxl with
    | [p, q, r, s, t], _ => exact ⟨p, q, r, s, t, rfl⟩
  have hgr := setN_grown (w0 := w) [a, b, d, d1, d2] u1.length (grown_refl w (some g))
  have hgo := h.out g rfl
  have hg1 : g ∉ f1 := fun hm => hgo (by simp [hm])
  have hg0 : g ∉ f0 := fun hm => hgo (by simp [hm])
  have hg2 : g ∉ f2 := fun hm => hgo (by simp [hm])
  have hgx : g ∉ fx := fun hm => by
    rcases hfx g hm with h | h
    · exact hg0 h
    · exact h.2.2 rfl
  have hnd := h.new.nd
  have hnn : New w (f1 ++ (fx ++ f2)) B := by
    rw [List.nodup_append] at hnd
    obtain ⟨n1, n2, n3⟩ := hnd
    rw [List.nodup_append] at n2
    obtain ⟨n4, n5, n6⟩ := n2
    refine ⟨fun b hb => ?_, List.nodup_append.2 ⟨n1, List.nodup_append.2 ⟨hn.nd, n5, fun b hb b' hb' e => ?_⟩, fun b hb b' hb' e => ?_⟩, fun b hb => ?_⟩
    · simp only [List.mem_append] at hb
      rcases hb with hb | hb | hb
      · exact h.new.fr b (by simp [hb])
      · exact hn.fr b hb
      · exact h.new.fr b (by simp [hb])
    · subst e
      rcases hfx b hb with h | h
      · exact n6 b h b hb' rfl
      · exact h.2.1 hb'
    · subst e
      rcases List.mem_append.1 hb' with hb' | hb'
      · rcases hfx b hb' with h | h
        · exact n3 b hb b (by simp [h]) rfl
        · exact h.1 hb
      · exact n3 b hb b (by simp [hb']) rfl
    · simp only [List.mem_append] at hb
      rcases hb with hb | hb | hb
      · exact h.new.uf b (by simp [hb])
      · exact hn.uf b hb
      · exact h.new.uf b (by simp [hb])
  have hcc : OwC w ((l1 ++ y :: l2).flatMap f) (u1 ++ ([a, b, d, d1, d2] ++ u2)) (f1 ++ (fx ++ f2)) := by
    rw [List.flatMap_append, List.flatMap_cons]
    exact c1.append (hx.append c2)
  have hno : ∀ k, some g = some k → k ∉ f1 ++ (fx ++ f2) := fun k e hm => by
    injection e with e
    subst e
    simp only [List.mem_append] at hm
    rcases hm with hm | hm | hm
    · exact hg1 hm
    · exact hgx hm
    · exact hg2 hm
  obtain rfl : n = (l1 ++ x :: l2).length := by
    obtain ⟨A, c', e⟩ := h.form
    injection e
  have s1 := (h.own.stored u1.length a).1
  have s2 := (s1.stored (u1.length + 1) b).1
  have s3 := (s2.stored (u1.length + 1 + 1) d).1
  have s4 := (s3.stored (u1.length + 1 + 1 + 1) d1).1
  have s5 := (s4.stored (u1.length + 1 + 1 + 1 + 1) d2).1
  rw [set5] at s5
  refine ⟨?_, hcc.grown' hgr hnn.lt hno, hnn.grown hgr hno, fun k e => hno k e⟩
  have hl : (l1 ++ y :: l2).length = (l1 ++ x :: l2).length := by simp
  rw [hl]
  exact s5
def SpoilOutT (g : Nat) (L : List UInt8) (k N M lo : Nat) (fp : List Nat) (w : World) (e : Ending) (w' : World) : Prop :=
  ∃ (y : Tree) (us : List Value) (fq : List Nat) (k' : Nat), e = .returned (.agg us.toArray) ∧ OwC w' y.cells us fq ∧ New w' fq lo ∧ (∀ b ∈ fq, b ∈ fp ∨ w.heap.size ≤ b) ∧ y.bulk ≤ N ∧ k' ≤ k + M ∧ RdD w' g L k' ∧ w.grownBy w' (some g)
def SpoilTr (x : Tree) : Prop := ∀ (us : List Value) (fp : List Nat) (L : List UInt8) (k g lo : Nat) (w : World), OwC w x.cells us fp → New w fp lo → g < lo → lo ≤ w.heap.size → RdD w g L k → x.bulk ≤ 1000000 → k + 3 * x.bulk ≤ 90000000 →
  Calls Tryz.prog 55 #[.pointer (some ⟨g, 0, none⟩), .agg us.toArray] w (SpoilOutT g L k (x.bulk + 1000) (3 * x.bulk + 100) lo fp w)
/-- the state of a spoiling: the box, the result's block, what the tree's slices hold, the source -/
structure SpT (s n : Int) (x : ByteArray) (ns : List ByteArray) (ks : List Tree) (A1 : Option Addr) (c1 : Nat) (A2 : Option Addr) (c2 : Nat) (f1 f2 fp : List Nat) (lo g : Nat) (L : List UInt8) (w W : World) (k' : Nat) : Prop where
  X : Row W w.heap.size 26 [.int .i64 s, .int .i64 n, .string x, .slice A1 ns.length c1, .slice A2 ks.length c2]
  Z : Row W (w.heap.size + 1) 26 [.int .i64 0, .int .i64 0, .string .empty, .slice none 0 0, .slice none 0 0]
  ws : (Lit.int .i64 s).wf = true
  wn : (Lit.int .i64 n).wf = true
  wx : x.size ≤ maxLen
  o1 : Ow W (.s 1 ns.length (ns.flatMap strC)) (.slice A1 ns.length c1) f1
  o2 : Ow W (.s 5 ks.length (ks.flatMap Tree.cells)) (.slice A2 ks.length c2) f2
  hn : New W (f1 ++ f2) lo
  hs : ∀ b ∈ f1 ++ f2, b ∈ fp ∨ w.heap.size + 2 ≤ b
  hf : Lt fp w.heap.size
  gl : g < lo
  ll : lo ≤ w.heap.size
  rd : RdD W g L k'
  gr : w.grownBy W (some g)
section
variable {s n : Int} {x : ByteArray} {ns : List ByteArray} {ks : List Tree} {A1 : Option Addr} {c1 : Nat} {A2 : Option Addr} {c2 : Nat} {f1 f2 fp : List Nat} {lo g : Nat} {L : List UInt8} {w W W' : World} {k' k2 : Nat}
theorem SpT.nobox (h : SpT s n x ns ks A1 c1 A2 c2 f1 f2 fp lo g L w W k') : w.heap.size ∉ f1 ++ f2 := fun hm => by
  rcases h.hs _ hm with e | e
  · have := h.hf _ e; omega
  · omega
theorem SpT.nores (h : SpT s n x ns ks A1 c1 A2 c2 f1 f2 fp lo g L w W k') : w.heap.size + 1 ∉ f1 ++ f2 := fun hm => by
  rcases h.hs _ hm with e | e
  · have := h.hf _ e; omega
  · omega
theorem SpT.tick (h : SpT s n x ns ks A1 c1 A2 c2 f1 f2 fp lo g L w W k') (hg : W.grownBy W' (some g)) (hr : RdD W' g L k2) : SpT s n x ns ks A1 c1 A2 c2 f1 f2 fp lo g L w W' k2 := by
  have hgl := h.gl
  have hll := h.ll
  have hgf : ∀ q, some g = some q → q ∉ f1 ++ f2 := fun q e hm => by
    injection e with e
    subst e
    have := (h.hn.fr _ hm).1
    omega
  exact ⟨h.X.grown hg (fun e => by injection e with e; omega), h.Z.grown hg (fun e => by injection e with e; omega), h.ws, h.wn, h.wx,
    Ow.frame _ (fun q hm => hg.block q (h.hn.lt _ (List.mem_append.2 (.inl hm))) (fun e => hgf q e.symm (List.mem_append.2 (.inl hm)))) h.o1,
    Ow.frame _ (fun q hm => hg.block q (h.hn.lt _ (List.mem_append.2 (.inr hm))) (fun e => hgf q e.symm (List.mem_append.2 (.inr hm)))) h.o2,
    h.hn.grown hg hgf, h.hs, h.hf, h.gl, h.ll, hr, only_trans h.gr hg⟩
theorem SpT.below (h : SpT s n x ns ks A1 c1 A2 c2 f1 f2 fp lo g L w W k') (hb : Below W.heap.size W W') : SpT s n x ns ks A1 c1 A2 c2 f1 f2 fp lo g L w W' k' := h.tick (grownBy_below hb (some g)) (h.rd.below hb)
theorem SpT.low (h : SpT s n x ns ks A1 c1 A2 c2 f1 f2 fp lo g L w W k') {B : Nat} (hb : Below B W W') (hB : w.heap.size + 2 ≤ B) (hf : Lt (f1 ++ f2) B) : SpT s n x ns ks A1 c1 A2 c2 f1 f2 fp lo g L w W' k' :=
  have hgl := h.gl
  have hll := h.ll
  ⟨h.X.below hb (by omega), h.Z.below hb (by omega), h.ws, h.wn, h.wx, h.o1.below hb hf.left, h.o2.below hb hf.right, h.hn.below hb hf, h.hs, h.hf, h.gl, h.ll, h.rd.low hb (by omega), only_lowR h.gr hb (by omega)⟩
theorem SpT.frame (h : SpT s n x ns ks A1 c1 A2 c2 f1 f2 fp lo g L w W k') (i : Nat) (v : Value) : Row (W.setCell ⟨w.heap.size, i, none⟩ v) (w.heap.size + 1) 26 [.int .i64 0, .int .i64 0, .string .empty, .slice none 0 0, .slice none 0 0] ∧ Ow (W.setCell ⟨w.heap.size, i, none⟩ v) (.s 1 ns.length (ns.flatMap strC)) (.slice A1 ns.length c1) f1 ∧
    Ow (W.setCell ⟨w.heap.size, i, none⟩ v) (.s 5 ks.length (ks.flatMap Tree.cells)) (.slice A2 ks.length c2) f2 ∧ New (W.setCell ⟨w.heap.size, i, none⟩ v) (f1 ++ f2) lo ∧ RdD (W.setCell ⟨w.heap.size, i, none⟩ v) g L k' ∧ w.grownBy (W.setCell ⟨w.heap.size, i, none⟩ v) (some g) := by
  have hgl := h.gl
  have hll := h.ll
  have hb : Below w.heap.size W (W.setCell ⟨w.heap.size, i, none⟩ v) := (Below.refl _ _).setCell (p := ⟨w.heap.size, i, none⟩) (Nat.le_refl _) _
  exact ⟨h.Z.far (p := ⟨w.heap.size, i, none⟩) (by simp) _, h.o1.setCell (a := ⟨w.heap.size, i, none⟩) (fun hm => h.nobox (List.mem_append_left _ hm)) _, h.o2.setCell (a := ⟨w.heap.size, i, none⟩) (fun hm => h.nobox (List.mem_append_right _ hm)) _, h.hn.setCell _ _, h.rd.low hb (by omega), only_lowR h.gr hb (Nat.le_refl _)⟩
theorem SpT.sets (h : SpT s n x ns ks A1 c1 A2 c2 f1 f2 fp lo g L w W k') {q : Int} (hq : (Lit.int .i64 q).wf = true) : SpT q n x ns ks A1 c1 A2 c2 f1 f2 fp lo g L w (W.setCell ⟨w.heap.size, 0, none⟩ (.int .i64 q)) k' := by
  obtain ⟨a1, a2, a3, a4, a5, a6⟩ := h.frame 0 (.int .i64 q)
  exact ⟨h.X.set 0 _, a1, hq, h.wn, h.wx, a2, a3, a4, h.hs, h.hf, h.gl, h.ll, a5, a6⟩
theorem SpT.setn (h : SpT s n x ns ks A1 c1 A2 c2 f1 f2 fp lo g L w W k') {q : Int} (hq : (Lit.int .i64 q).wf = true) : SpT s q x ns ks A1 c1 A2 c2 f1 f2 fp lo g L w (W.setCell ⟨w.heap.size, 1, none⟩ (.int .i64 q)) k' := by
  obtain ⟨a1, a2, a3, a4, a5, a6⟩ := h.frame 1 (.int .i64 q)
  exact ⟨h.X.set 1 _, a1, h.ws, hq, h.wx, a2, a3, a4, h.hs, h.hf, h.gl, h.ll, a5, a6⟩
theorem SpT.setx (h : SpT s n x ns ks A1 c1 A2 c2 f1 f2 fp lo g L w W k') {q : ByteArray} (hq : q.size ≤ maxLen) : SpT s n q ns ks A1 c1 A2 c2 f1 f2 fp lo g L w (W.setCell ⟨w.heap.size, 2, none⟩ (.string q)) k' := by
  obtain ⟨a1, a2, a3, a4, a5, a6⟩ := h.frame 2 (.string q)
  exact ⟨h.X.set 2 _, a1, h.ws, h.wn, hq, a2, a3, a4, h.hs, h.hf, h.gl, h.ll, a5, a6⟩
theorem SpT.setns (h : SpT s n x ns ks A1 c1 A2 c2 f1 f2 fp lo g L w W k') {ns' : List ByteArray} {A : Option Addr} {c : Nat} {p : List Nat} (ho : Ow W (.s 1 ns'.length (ns'.flatMap strC)) (.slice A ns'.length c) p) (hn : New W p lo) (hp : ∀ b ∈ p, w.heap.size + 2 ≤ b ∧ b ∉ f2) :
    SpT s n x ns' ks A c A2 c2 p f2 fp lo g L w (W.setCell ⟨w.heap.size, 3, none⟩ (.slice A ns'.length c)) k' := by
  obtain ⟨a1, a2, a3, a4, a5, a6⟩ := h.frame 3 (.slice A ns'.length c)
  have hno : w.heap.size ∉ p := fun hm => by have := (hp _ hm).1; omega
  have h2 := h.hn.rightK
  have hnn : New W (p ++ f2) lo := ⟨hn.fr.app h2.fr, List.nodup_append.2 ⟨hn.nd, h2.nd, fun a ha b hb e => by subst e; exact (hp a ha).2 hb⟩, fun b hb => by
    rcases List.mem_append.1 hb with hb | hb
    · exact hn.uf b hb
    · exact h2.uf b hb⟩
  refine ⟨h.X.set 3 _, a1, h.ws, h.wn, h.wx, ho.setCell (a := ⟨w.heap.size, 3, none⟩) hno _, a3, hnn.setCell _ _, fun b hb => ?_, h.hf, h.gl, h.ll, a5, a6⟩
  rcases List.mem_append.1 hb with hb | hb
  · exact .inr (hp b hb).1
  · exact h.hs b (List.mem_append_right _ hb)
theorem SpT.setks (h : SpT s n x ns ks A1 c1 A2 c2 f1 f2 fp lo g L w W k') {ks' : List Tree} {A : Option Addr} {c : Nat} {p : List Nat} (ho : Ow W (.s 5 ks'.length (ks'.flatMap Tree.cells)) (.slice A ks'.length c) p) (hn : New W p lo) (hp : ∀ b ∈ p, (b ∈ fp ∨ w.heap.size + 2 ≤ b) ∧ b ∉ f1) :
    SpT s n x ns ks' A1 c1 A c f1 p fp lo g L w (W.setCell ⟨w.heap.size, 4, none⟩ (.slice A ks'.length c)) k' := by
  obtain ⟨a1, a2, a3, a4, a5, a6⟩ := h.frame 4 (.slice A ks'.length c)
  have hno : w.heap.size ∉ p := fun hm => by
    rcases (hp _ hm).1 with e | e
    · have := h.hf _ e; omega
    · omega
  have h2 := h.hn.leftK
  have hnn : New W (f1 ++ p) lo := ⟨h2.fr.app hn.fr, List.nodup_append.2 ⟨h2.nd, hn.nd, fun a ha b hb e => by subst e; exact (hp a hb).2 ha⟩, fun b hb => by
    rcases List.mem_append.1 hb with hb | hb
    · exact h2.uf b hb
    · exact hn.uf b hb⟩
  refine ⟨h.X.set 4 _, a1, h.ws, h.wn, h.wx, a2, ho.setCell (a := ⟨w.heap.size, 4, none⟩) hno _, hnn.setCell _ _, fun b hb => ?_, h.hf, h.gl, h.ll, a5, a6⟩
  rcases List.mem_append.1 hb with hb | hb
  · exact h.hs b (List.mem_append_left _ hb)
  · exact (hp b hb).1
theorem SpT.fin (h : SpT s n x ns ks A1 c1 A2 c2 f1 f2 fp lo g L w W k') {k0 N M : Nat} (hb : (Tree.mk s n x ns ks).bulk ≤ N) (hk : k' ≤ k0 + M) : SpoilOutT g L k0 N M lo fp w (.returned (.agg ([.int .i64 s, .int .i64 n, .string x, .slice A1 ns.length c1, .slice A2 ks.length c2] : List Value).toArray)) (putN W (w.heap.size + 1) 0 [.int .i64 s, .int .i64 n, .string x, .slice A1 ns.length c1, .slice A2 ks.length c2]) := by
  have hgl := h.gl
  have hll := h.ll
  have hgr := setN_grown [.int .i64 s, .int .i64 n, .string x, .slice A1 ns.length c1, .slice A2 ks.length c2] 0 (grown_refl W (some (w.heap.size + 1)))
  have hb2 : Below w.heap.size W (putN W (w.heap.size + 1) 0 [.int .i64 s, .int .i64 n, .string x, .slice A1 ns.length c1, .slice A2 ks.length c2]) := below_of_grown hgr (by omega) h.gr.size
  refine ⟨.mk s n x ns ks, _, f1 ++ f2, k', rfl, (OwC.mTree (x := .mk s n x ns ks) h.ws h.wn h.wx h.o1 h.o2).grown hgr h.hn.lt h.nores, h.hn.grown hgr (fun b e => by injection e with e; subst e; exact h.nores), fun b hb => (h.hs b hb).imp_right (fun e => by omega), hb, hk, h.rd.low hb2 (by omega), only_lowR h.gr hb2 (Nat.le_refl _)⟩
end
/-- the state without the box and the kids -/
structure SpB (s n : Int) (x : ByteArray) (ns : List ByteArray) (A1 : Option Addr) (c1 : Nat) (f1 fp : List Nat) (lo g : Nat) (L : List UInt8) (w W : World) (k' : Nat) : Prop where
  Z : Row W (w.heap.size + 1) 26 [.int .i64 0, .int .i64 0, .string .empty, .slice none 0 0, .slice none 0 0]
  ws : (Lit.int .i64 s).wf = true
  wn : (Lit.int .i64 n).wf = true
  wx : x.size ≤ maxLen
  o1 : Ow W (.s 1 ns.length (ns.flatMap strC)) (.slice A1 ns.length c1) f1
  hn : New W f1 lo
  hs : ∀ b ∈ f1, b ∈ fp ∨ w.heap.size + 2 ≤ b
  hf : Lt fp w.heap.size
  gl : g < lo
  ll : lo ≤ w.heap.size
  rd : RdD W g L k'
  gr : w.grownBy W (some g)
section
variable {s n : Int} {x : ByteArray} {ns : List ByteArray} {ks : List Tree} {A1 : Option Addr} {c1 : Nat} {A2 : Option Addr} {c2 : Nat} {f1 f2 fp : List Nat} {lo g : Nat} {L : List UInt8} {w W W' : World} {k' k2 : Nat}
theorem SpT.toB (h : SpT s n x ns ks A1 c1 A2 c2 f1 f2 fp lo g L w W k') : SpB s n x ns A1 c1 f1 fp lo g L w W k' := ⟨h.Z, h.ws, h.wn, h.wx, h.o1, h.hn.leftK, fun b hb => h.hs b (List.mem_append_left _ hb), h.hf, h.gl, h.ll, h.rd, h.gr⟩
theorem SpB.low (h : SpB s n x ns A1 c1 f1 fp lo g L w W k') {B : Nat} (hb : Below B W W') (hB : w.heap.size + 2 ≤ B) (hf : Lt f1 B) : SpB s n x ns A1 c1 f1 fp lo g L w W' k' :=
  have hgl := h.gl
  have hll := h.ll
  ⟨h.Z.below hb (by omega), h.ws, h.wn, h.wx, h.o1.below hb hf, h.hn.below hb hf, h.hs, h.hf, h.gl, h.ll, h.rd.low hb (by omega), only_lowR h.gr hb (by omega)⟩
theorem SpB.put (h : SpB s n x ns A1 c1 f1 fp lo g L w W k') (i : Nat) (v : Value) : SpB s n x ns A1 c1 f1 fp lo g L w (W.setCell ⟨w.heap.size, i, none⟩ v) k' := by
  have hgl := h.gl
  have hll := h.ll
  have hno : w.heap.size ∉ f1 := fun hm => by
    rcases h.hs _ hm with e | e
    · have := h.hf _ e; omega
    · omega
  have hb : Below w.heap.size W (W.setCell ⟨w.heap.size, i, none⟩ v) := (Below.refl _ _).setCell (p := ⟨w.heap.size, i, none⟩) (Nat.le_refl _) _
  exact ⟨h.Z.far (p := ⟨w.heap.size, i, none⟩) (by simp) _, h.ws, h.wn, h.wx, h.o1.setCell (a := ⟨w.heap.size, i, none⟩) hno _, h.hn.setCell _ _, h.hs, h.hf, h.gl, h.ll, h.rd.low hb (by omega), only_lowR h.gr hb (Nat.le_refl _)⟩
theorem SpB.toT (h : SpB s n x ns A1 c1 f1 fp lo g L w W k') {p : List Nat} (hx : Row W w.heap.size 26 [.int .i64 s, .int .i64 n, .string x, .slice A1 ns.length c1, .slice A2 ks.length c2]) (ho : Ow W (.s 5 ks.length (ks.flatMap Tree.cells)) (.slice A2 ks.length c2) p) (hn : New W p lo) (hp : ∀ b ∈ p, w.heap.size + 2 ≤ b ∧ b ∉ f1) :
    SpT s n x ns ks A1 c1 A2 c2 f1 p fp lo g L w W k' := by
  refine ⟨hx, h.Z, h.ws, h.wn, h.wx, h.o1, ho, ⟨h.hn.fr.app hn.fr, List.nodup_append.2 ⟨h.hn.nd, hn.nd, fun a ha b hb e => by subst e; exact (hp a hb).2 ha⟩, fun b hb => ?_⟩, fun b hb => ?_, h.hf, h.gl, h.ll, h.rd, h.gr⟩
  · rcases List.mem_append.1 hb with hb | hb
    · exact h.hn.uf b hb
    · exact hn.uf b hb
  · rcases List.mem_append.1 hb with hb | hb
    · exact h.hs b hb
    · exact .inr (hp b hb).1
end
theorem wf8T {q : Nat} (h : q < 8) : (Lit.int .i64 (q : Int)).wf = true := by
  obtain rfl | rfl | rfl | rfl | rfl | rfl | rfl | rfl : q = 0 ∨ q = 1 ∨ q = 2 ∨ q = 3 ∨ q = 4 ∨ q = 5 ∨ q = 6 ∨ q = 7 := by omega
  all_goals decide
theorem num0_ow (W : World) : OwC W ([Tree.mk 1 0 .empty [] []].flatMap Tree.cells) [.int .i64 1, .int .i64 0, .string .empty, .slice none 0 0, .slice none 0 0] [] := by rw [List.flatMap_singleton]; exact tleaf_ow W (by decide) (by decide) (by decide)
end Go.Proofs.YtnaecdoeldoipaaGreatDoor
set_option linter.unusedVariables false
set_option linter.unusedSimpArgs false
namespace Go.Proofs.YtnaecdoeldoipaaGreatDoor
open Go.ChangeShapes Go.WideShapes Go.ChangeAt Go.RowKit

set_option maxRecDepth 100000 in
set_option maxHeartbeats 4000000 in
theorem spoilT_of (s n : Int) (x : ByteArray) (ns : List ByteArray) (ks : List Tree) (ih : ∀ y ∈ ks, SpoilTr y) : SpoilTr (.mk s n x ns ks) := by
  intro us fp L k g lo w ho hn hgl hlo hr hb hk
  obtain ⟨A1, c1, A2, c2, f1, f2, rfl, w0, w1, w2, o1, o2, rfl⟩ := ho.oTree
  simp only [Tree.sort, Tree.num, Tree.text, Tree.names, Tree.kids] at w0 w1 w2 o1 o2 ⊢
  have hgw := hr.lt
  have hf := hn.lt
  obtain ⟨N, hN⟩ : ∃ N, (Tree.mk s n x ns ks).bulk = N := ⟨_, rfl⟩
  rw [hN] at hb hk ⊢
  have HN := hide hN
  have HBK := hide (show N = x.size + bulkStrs ns + ks.length + Tree.bulkS ks from by rw [← hN, Tree.bulk_mk])
  obtain ⟨-, hn1, hm1⟩ := o1.nlen
  obtain ⟨-, hn2, hm2⟩ := o2.nlen
  unfold maxLen at hm1 hm2
  have hkl6 : ks.length ≤ 1000000 := by have := HBK.out; omega
  have hnl6 : ns.length ≤ 1000000 := by have := HBK.out; unfold bulkStrs at this; omega
  have HI := hide ih
  have HNW := hide hn
  have HR := hide hr
  have O1 := hide o1
  have O2 := hide o2
  clear hN ho ih hn hr o1 o2
  go_enter Tryz.func55, Tryz.ntmps55
  go_upto_region 1 with fail
  generalize hw1 : World.alloc _ _ = w1_
  have hb0 : Below w.heap.size w w1_ := by rw [← hw1]; exact ((Below.refl _ _).alloc (Nat.le_refl _) _).alloc (by simp) _
  have HS := hide (show SpT s n x ns ks A1 c1 A2 c2 f1 f2 (f1 ++ f2) lo g L w w1_ k from
    ⟨by rw [← hw1]; exact (Row.new w _ _).alloc _, by
      rw [← hw1]
      have h := Row.new (w.alloc (.cells #[.int .i64 s, .int .i64 n, .string x, .slice A1 ns.length c1, .slice A2 ks.length c2] 26)) 26 [.int .i64 0, .int .i64 0, .string .empty, .slice none 0 0, .slice none 0 0]
      rw [World.size_alloc] at h
      exact h, w0, w1, w2, O1.out.below hb0 hf.left, O2.out.below hb0 hf.right, HNW.out.below hb0 hf, fun b hb => .inl hb, hf, hgl, hlo, HR.out.below hb0, grownBy_below hb0 (some g)⟩)
  clear hw1 hb0 O1 O2 HNW HR w0 w1 w2
  have b4 := HS.out.X.cell 4
  have bl_ := HS.out.X.lt
  go_cut [16] from 8 to 17 (fun s16 wx => ∃ (b : Bool) (k1 : Nat), s16 = .bool b ∧ (b = true → 0 < ks.length) ∧ k1 ≤ k + 1 ∧ SpT s n x ns ks A1 c1 A2 c2 f1 f2 (f1 ++ f2) lo g L w wx k1)
  case first =>
    by_cases h0 : ks.length = 0
    · have h0i : ¬ ((0 : Int) < (ks.length : Int)) := by omega
      clear h0
      go_wp2_with fail
      go_meet
      exact ⟨false, k, rfl, (fun h => by cases h), by omega, HS.out⟩
    · have h0i : (0 : Int) < (ks.length : Int) := by omega
      have H0 := hide h0
      clear h0
      have HP := hide (pick_any HS.out.rd (n := 3) (by omega) (by omega) (by omega))
      go_wp2_with fail
      refine HP.out.mono ?_
      rintro e w5 ⟨r3, rfl, hr3, h5, hg5⟩
      go_wp2_with fail
      go_meet
      exact ⟨_, k + 1, rfl, fun _ => by have := H0.out; omega, Nat.le_refl _, HS.out.tick hg5 h5⟩
  clear b4 bl_ HS
  obtain ⟨bb, k1, rfl, hbb, hk1, hs⟩ := hcut
  obtain ⟨w2, rfl⟩ : ∃ W, W = wc := ⟨_, rfl⟩
  have HS := hide hs
  clear hs
  obtain ⟨ia, hia, ja0, ja1, ja2⟩ := info_parts info_strR
  have HIa := hide hia
  obtain ⟨ib, hib, jb0, jb1, jb2⟩ := info_parts info_TreeR
  have HIb := hide hib
  clear hia hib
  rcases bb with _ | _
  rotate_left
  · have hkl : 0 < ks.length := hbb rfl
    clear hbb
    have hl3 : w.heap.size + 2 ≤ w2.heap.size := HS.out.Z.lt
    have hAA : Below w2.heap.size w2 (w2.alloc (.cells #[] 26)) := (Below.refl _ _).alloc (Nat.le_refl _) _
    obtain ⟨usk, fk, hok, hsk, hsub, hnk⟩ := (HS.out.o2.below hAA HS.out.hn.rightK.lt).srcNew (HS.out.hn.rightK.alloc _)
    have HE := hide (OwS.emptyL (f := Tree.cells) w2 lo (by omega) 26 5)
    have HNO := hide (show ∀ q, (Value.slice (some ⟨w2.heap.size, 0, none⟩) 0 0).ownBlock = some q → q ∉ fk from fun q e hm => by
      have e2 : w2.heap.size = q := by simpa [Value.ownBlock] using e
      have := HS.out.hn.rightK.lt _ (hsub hm)
      omega)
    have HOK := hide hok
    have HSK := hide hsk
    have HSUB := hide hsub
    have HNK := hide (show New (w2.alloc (.cells #[] 26)) ([] ++ fk) lo from hnk)
    have HAA := hide hAA
    clear hok hsk hnk hAA hsub
    have b4 := HS.out.X.cell 4
    have bl_ := HS.out.X.lt
    go_wp2_with (first
      | (at_builtin; refine wpl_app rfl _ _ 24 rfl ib _ 80 Tryz.underlying24 HIb.out jb0 jb1 jb2 rfl (by decide) Tree.cells_len rfl HE.out ks HOK.out HNK.out HNO.out _ _ _ rfl rfl HSK.out (by simp; omega) (by decide) (by rw [World.size_alloc]; omega) ?_; intro A5 n5 c5 w5 hn5 hown5 hgb5; have hgb6 : GB (w2.alloc (.cells #[] 26)) w5 (.slice (some ⟨w2.heap.size, 0, none⟩) 0 0) (.slice A5 n5 c5) := hgb5; have hown6 : OwS w5 lo 26 5 Tree.cells (.slice A5 n5 c5) ks usk fk := hown5; have HB5 := hide (HAA.out.trans (hgb6.toBelow (B := w2.heap.size) (by rw [World.size_alloc]; omega) (fun q e => by (have e2 : w2.heap.size = q := by simpa [Value.ownBlock] using e); omega))); have HGE5 := hide (fun q (e : (Value.slice A5 n5 c5).ownBlock = some q) => show w2.heap.size ≤ q from hgb6.from (B := w2.heap.size) (by rw [World.size_alloc]; omega) (fun q e => by (have e2 : w2.heap.size = q := by simpa [Value.ownBlock] using e); omega) q e); have HS5 := hide (HS.out.below HB5.out); have HO5 := hide hown6; have HN5 := hide hn5; clear hown5 hown6 hgb5 hgb6 hn5)
      | fail)
    obtain rfl : n5 = ks.length := by have := HN5.out; simpa using this
    have HP := hide (pick_any HS5.out.rd (n := ks.length) (by omega) (by omega) (by omega))
    go_wp2_with fail
    refine HP.out.mono ?_
    rintro e w6 ⟨i, rfl, hi, h6, hg6⟩
    have HS6 := hide (HS5.out.tick hg6 h6)
    have HO6 := hide (HO5.out.kept hg6 (fun q e => by injection e with e; subst e; exact ⟨HO5.out.nlow hgl, HO5.out.low hgl⟩))
    obtain ⟨g5, rfl, -, hg5lo, hg5lt⟩ := HO6.out.block hkl
    have hg5 : w2.heap.size ≤ g5 := HGE5.out g5 rfl
    obtain ⟨l1, y, l2, hsplit, hl1⟩ := sp_split_at ks i hi
    have hc := HO6.out.cells
    rw [hsplit, List.flatMap_append, List.flatMap_cons] at hc
    obtain ⟨u1, u9, p1, p9, rfl, rfl, hc1, hc9, hu1⟩ := hc.splitK
    obtain ⟨u0, u2, p0, p2, rfl, rfl, hc0, hc2, hu0⟩ := hc9.splitK
    have hy5 : u0.length = 5 := by rw [hu0, Tree.cells_len]
    have hu1i : u1.length = i * 5 := by rw [hu1, flat_len Tree.cells 5 Tree.cells_len, hl1]
    obtain ⟨q0, q1, q2, q3, q4, rfl⟩ : ∃ a b c d e, u0 = [a, b, c, d, e] := by
      match u0, hy5 with
      | [a, b, c, d, e], _ => exact ⟨a, b, c, d, e, rfl⟩
    have k0c : w6.cell? ⟨g5, i * 5, none⟩ = some q0 := (HO6.out.cellAt (j := i * 5 + 0) (by rw [← hu1i, List.getElem?_append_right (by omega)]; simp)).1
    have k1c : w6.cell? ⟨g5, i * 5 + 1, none⟩ = some q1 := (HO6.out.cellAt (j := i * 5 + 1) (by rw [← hu1i, List.getElem?_append_right (by omega)]; simp)).1
    have k2c : w6.cell? ⟨g5, i * 5 + 2, none⟩ = some q2 := (HO6.out.cellAt (j := i * 5 + 2) (by rw [← hu1i, List.getElem?_append_right (by omega)]; simp)).1
    have k3c : w6.cell? ⟨g5, i * 5 + 3, none⟩ = some q3 := (HO6.out.cellAt (j := i * 5 + 3) (by rw [← hu1i, List.getElem?_append_right (by omega)]; simp)).1
    have k4c : w6.cell? ⟨g5, i * 5 + 4, none⟩ = some q4 := (HO6.out.cellAt (j := i * 5 + 4) (by rw [← hu1i, List.getElem?_append_right (by omega)]; simp)).1
    have HC1 := hide hc1
    have HC2 := hide hc2
    have HSP := hide hsplit
    have HU1 := hide hu1i
    have hN0 : New w6 p0 lo := (HO6.out.new.rightK).leftK
    have HLT6 := hide (show Lt (p1 ++ (p0 ++ p2)) w6.heap.size from HO6.out.new.lt)
    have hw26 : w2.heap.size ≤ w6.heap.size := Nat.le_trans HB5.out.size hg6.size
    have hyb : y.bulk + 1 ≤ N := by
      have h := HBK.out
      rw [hsplit, Tree.bulkS_append] at h
      simp only [Tree.bulkS, List.length_append, List.length_cons] at h
      omega
    have HK := hide (HI.out y (by rw [hsplit]; simp) [q0, q1, q2, q3, q4] p0 L (k1 + 1) g lo w6 hc0 hN0 hgl (Nat.le_trans (by omega) (Nat.le_of_lt HS6.out.Z.lt)) HS6.out.rd (by omega) (by omega))
    have hii : (i : Int) < (ks.length : Int) := by omega
    clear hsplit hc hc9 hc1 hc2 hc0 h6 hg6 HP HS5 HO5 hN0 HE HNO HOK HSK HNK hu1 hu0 b4 bl_ hu1i hi hl1
    go_upto_region 4 with fail
    go_wp2_with fail
    refine HK.out.mono ?_
    rintro e w7 ⟨y7, us7, fq7, k7, rfl, ho7, hn7, hs7, hb7, hk7, hr7, hg7⟩
    have HO7 := hide ho7
    have HN7 := hide hn7
    have HF7 := hide hs7
    have HS7 := hide (HS6.out.tick hg7 hr7)
    have HG7 := hide (HO6.out.kept hg7 (fun q e => by injection e with e; subst e; exact ⟨HO6.out.nlow hgl, HO6.out.low hgl⟩))
    have hgn : ∀ q, some g = some q → q ∉ p1 ++ (p0 ++ p2) := fun q e => by injection e with e; subst e; exact HO6.out.nlow hgl
    have HC71 := hide (HC1.out.grown' hg7 (fun b hb => HO6.out.new.lt b (by simp [hb])) (fun q e hm => hgn q e (by simp [hm])))
    have HC72 := hide (HC2.out.grown' hg7 (fun b hb => HO6.out.new.lt b (by simp [hb])) (fun q e hm => hgn q e (by simp [hm])))
    obtain ⟨E1, e1, E2, e2, r1, r2, rfl, -, -, -, -, -, -⟩ := ho7.oTree
    obtain ⟨v0, hv0, fv0⟩ : ∃ v, w7.cell? ⟨g5, i * 5, none⟩ = some v ∧ w7.frozen? ⟨g5, i * 5, none⟩ = false := ⟨q0, (HG7.out.cellAt (j := i * 5 + 0) (u := q0) (by rw [← HU1.out, List.getElem?_append_right (by omega)]; simp)).1, (HG7.out.cellAt (j := i * 5 + 0) (u := q0) (by rw [← HU1.out, List.getElem?_append_right (by omega)]; simp)).2.1⟩
    obtain ⟨v1, hv1, fv1⟩ : ∃ v, w7.cell? ⟨g5, i * 5 + 1, none⟩ = some v ∧ w7.frozen? ⟨g5, i * 5 + 1, none⟩ = false := ⟨q1, (HG7.out.cellAt (j := i * 5 + 1) (u := q1) (by rw [← HU1.out, List.getElem?_append_right (by omega)]; simp)).1, (HG7.out.cellAt (j := i * 5 + 1) (u := q1) (by rw [← HU1.out, List.getElem?_append_right (by omega)]; simp)).2.1⟩
    obtain ⟨v2, hv2, fv2⟩ : ∃ v, w7.cell? ⟨g5, i * 5 + 2, none⟩ = some v ∧ w7.frozen? ⟨g5, i * 5 + 2, none⟩ = false := ⟨q2, (HG7.out.cellAt (j := i * 5 + 2) (u := q2) (by rw [← HU1.out, List.getElem?_append_right (by omega)]; simp)).1, (HG7.out.cellAt (j := i * 5 + 2) (u := q2) (by rw [← HU1.out, List.getElem?_append_right (by omega)]; simp)).2.1⟩
    obtain ⟨v3, hv3, fv3⟩ : ∃ v, w7.cell? ⟨g5, i * 5 + 3, none⟩ = some v ∧ w7.frozen? ⟨g5, i * 5 + 3, none⟩ = false := ⟨q3, (HG7.out.cellAt (j := i * 5 + 3) (u := q3) (by rw [← HU1.out, List.getElem?_append_right (by omega)]; simp)).1, (HG7.out.cellAt (j := i * 5 + 3) (u := q3) (by rw [← HU1.out, List.getElem?_append_right (by omega)]; simp)).2.1⟩
    obtain ⟨v4, hv4, fv4⟩ : ∃ v, w7.cell? ⟨g5, i * 5 + 4, none⟩ = some v ∧ w7.frozen? ⟨g5, i * 5 + 4, none⟩ = false := ⟨q4, (HG7.out.cellAt (j := i * 5 + 4) (u := q4) (by rw [← HU1.out, List.getElem?_append_right (by omega)]; simp)).1, (HG7.out.cellAt (j := i * 5 + 4) (u := q4) (by rw [← HU1.out, List.getElem?_append_right (by omega)]; simp)).2.1⟩
    have hg7lt : g5 < w7.heap.size := Nat.lt_of_lt_of_le hg5lt hg7.size
    have hw67 : w6.heap.size ≤ w7.heap.size := hg7.size
    clear ho7 hn7 hs7 hr7 hg7 k0c k1c k2c k3c k4c HK HS6 HO6 HC1 HC2
    go_upto_region 5 with fail
    generalize hw8 : World.setCell (World.setCell (World.setCell (World.setCell (World.setCell w7 _ _) _ _) _ _) _ _) _ _ = w8
    have hput : putN w7 g5 u1.length [.int .i64 y7.sort, .int .i64 y7.num, .string y7.text, .slice E1 y7.names.length e1, .slice E2 y7.kids.length e2] = w8 := by rw [HU1.out]; exact hw8
    have hG : OwS w7 lo 26 5 Tree.cells (.slice (some ⟨g5, 0, none⟩) ks.length c5) (l1 ++ y :: l2) (u1 ++ ([q0, q1, q2, q3, q4] ++ u2)) (p1 ++ (p0 ++ p2)) := by rw [← HSP.out]; exact HG7.out
    have hP := hG.putAt5 HC71.out HC72.out rfl HO7.out rfl HN7.out (fun b hb => by
      rcases HF7.out b hb with h | h
      · exact .inl h
      · exact .inr ⟨fun hm => (by have := HLT6.out b (by simp [hm]); omega), fun hm => (by have := HLT6.out b (by simp [hm]); omega), by omega⟩)
    rw [hput] at hP
    have hgr8 : w7.grownBy w8 (some g5) := by rw [← hput]; exact setN_grown _ _ (grown_refl _ _)
    have hl3' : w.heap.size + 2 ≤ g5 := by omega
    have HS8 := hide (HS7.out.low (below_of_grown hgr8 (Nat.le_refl _) (by omega)) hl3' (hf.mono (by omega)))
    obtain ⟨pf, of_, nf, sf⟩ := hP.toOw'
    have hlen : (l1 ++ y7 :: l2).length = ks.length := by rw [HSP.out]; simp
    have HPF := hide (show ∀ b ∈ pf, (b ∈ f1 ++ f2 ∨ w.heap.size + 2 ≤ b) ∧ b ∉ f1 from fun b hb => by
      have hd := fun (h1 : b ∈ f1) (h2 : b ∈ p1 ++ (p0 ++ p2)) => (List.nodup_append.1 HS8.out.hn.nd).2.2 b h1 b (HSUB.out h2) rfl
      rcases sf b hb with h | h
      · have e2 : g5 = b := by simpa [Value.ownBlock] using h
        exact ⟨.inr (by omega), fun hm => by have := hf.left b hm; omega⟩
      · simp only [List.mem_append] at h
        rcases h with h | h | h
        · exact ⟨.inl (List.mem_append.2 (.inr (HSUB.out (by simp [h])))), fun hm => hd hm (by simp [h])⟩
        · rcases HF7.out b h with h | h
          · exact ⟨.inl (List.mem_append.2 (.inr (HSUB.out (by simp [h])))), fun hm => hd hm (by simp [h])⟩
          · exact ⟨.inr (by omega), fun hm => by have := hf.left b hm; omega⟩
        · exact ⟨.inl (List.mem_append.2 (.inr (HSUB.out (by simp [h])))), fun hm => hd hm (by simp [h])⟩)
    rw [← hlen] at of_
    have HOF := hide of_
    have HNF := hide nf
    have HLEN := hide hlen
    clear hw8 hput hG hP hgr8 HS7 HG7 HC71 HC72 HO7 HN7 hv0 hv1 hv2 hv3 hv4 fv0 fv1 fv2 fv3 fv4 of_ nf sf hlen
    have b4 := HS8.out.X.cell 4
    have b4f := HS8.out.X.frozen 4
    have bl_ := HS8.out.X.lt
    go_upto_region 6 with fail
    generalize hw9 : World.setCell _ _ _ = w9
    have HS9 := hide (show SpT s n x ns (l1 ++ y7 :: l2) A1 c1 (some ⟨g5, 0, none⟩) c5 f1 pf (f1 ++ f2) lo g L w w9 k7 from by
      rw [← hw9]
      have h := HS8.out.setks HOF.out HNF.out HPF.out
      rw [HLEN.out] at h
      exact h)
    clear hw9 HS8 b4 b4f bl_ HOF HNF HPF
    obtain ⟨kz, hkz⟩ : ∃ q, l1 ++ y7 :: l2 = q := ⟨_, rfl⟩
    rw [hkz] at HS9
    have HKZ := hide hkz
    clear hkz
    have b0 := HS9.out.X.cell 0
    have bf0 := HS9.out.X.frozen 0
    have b1 := HS9.out.X.cell 1
    have bf1 := HS9.out.X.frozen 1
    have b2 := HS9.out.X.cell 2
    have bf2 := HS9.out.X.frozen 2
    have b3 := HS9.out.X.cell 3
    have bf3 := HS9.out.X.frozen 3
    have b4 := HS9.out.X.cell 4
    have bf4 := HS9.out.X.frozen 4
    have bl := HS9.out.X.lt
    have r0 := HS9.out.Z.cell 0
    have rf0 := HS9.out.Z.frozen 0
    have r1 := HS9.out.Z.cell 1
    have rf1 := HS9.out.Z.frozen 1
    have r2 := HS9.out.Z.cell 2
    have rf2 := HS9.out.Z.frozen 2
    have r3 := HS9.out.Z.cell 3
    have rf3 := HS9.out.Z.frozen 3
    have r4 := HS9.out.Z.cell 4
    have rf4 := HS9.out.Z.frozen 4
    have rl := HS9.out.Z.lt
    go_wp2
    refine bodyPost_ret (ret_row rfl _ _ (w.heap.size + 1) 26 [.int .i64 s, .int .i64 n, .string x, .slice A1 ns.length c1, .slice (some ⟨g5, 0, none⟩) kz.length c5] (HS9.out.Z.setAll [.int .i64 s, .int .i64 n, .string x, .slice A1 ns.length c1, .slice (some ⟨g5, 0, none⟩) kz.length c5] rfl) _ rfl Tryz.underlying26 rfl (by kernel_rfl)) rfl ?_
    exact HS9.out.fin (by rw [Tree.bulk_mk, ← HKZ.out]; have h := HBK.out; rw [HSP.out] at h; simp only [Tree.bulkS_append, Tree.bulkS, List.length_append, List.length_cons] at h ⊢; omega) (by omega)
  clear hbb
  have HP := hide (pick_any HS.out.rd (n := 8) (by omega) (by omega) (by omega))
  go_wp2_with fail
  refine HP.out.mono ?_
  rintro e w3 ⟨v, rfl, hv, h3, hg3⟩
  have HT := hide (HS.out.tick hg3 h3)
  clear HP HS h3 hg3
  have hv8 : v = 0 ∨ v = 1 ∨ v = 2 ∨ v = 3 ∨ v = 4 ∨ v = 5 ∨ v = 6 ∨ v = 7 := by omega
  clear hv
  rcases hv8 with rfl | rfl | rfl | rfl | rfl | rfl | rfl | rfl
  · skip
    have HP := hide (pick_any HT.out.rd (n := 8) (by omega) (by omega) (by omega))
    go_wp2_with fail
    refine HP.out.mono ?_
    rintro e w4 ⟨q, rfl, hq, h4, hg4⟩
    have HU := hide (HT.out.tick hg4 h4)
    clear HP HT h4 hg4
    have b0 := HU.out.X.cell 0
    have bf0 := HU.out.X.frozen 0
    have bl_ := HU.out.X.lt
    go_upto_region 28 with fail
    generalize hwz : World.setCell _ _ _ = wz
    have HW := hide (show SpT q n x ns ks A1 c1 A2 c2 f1 f2 (f1 ++ f2) lo g L w wz (k1 + 1 + 1) from by rw [← hwz]; exact HU.out.sets (wf8T hq))
    clear hwz HU b0 bf0 bl_
    have b0 := HW.out.X.cell 0
    have bf0 := HW.out.X.frozen 0
    have b1 := HW.out.X.cell 1
    have bf1 := HW.out.X.frozen 1
    have b2 := HW.out.X.cell 2
    have bf2 := HW.out.X.frozen 2
    have b3 := HW.out.X.cell 3
    have bf3 := HW.out.X.frozen 3
    have b4 := HW.out.X.cell 4
    have bf4 := HW.out.X.frozen 4
    have bl := HW.out.X.lt
    have r0 := HW.out.Z.cell 0
    have rf0 := HW.out.Z.frozen 0
    have r1 := HW.out.Z.cell 1
    have rf1 := HW.out.Z.frozen 1
    have r2 := HW.out.Z.cell 2
    have rf2 := HW.out.Z.frozen 2
    have r3 := HW.out.Z.cell 3
    have rf3 := HW.out.Z.frozen 3
    have r4 := HW.out.Z.cell 4
    have rf4 := HW.out.Z.frozen 4
    have rl := HW.out.Z.lt
    go_wp2
    refine bodyPost_ret (ret_row rfl _ _ (w.heap.size + 1) 26 [.int .i64 (q : Int), .int .i64 n, .string x, .slice A1 ns.length c1, .slice A2 ks.length c2] (HW.out.Z.setAll [.int .i64 (q : Int), .int .i64 n, .string x, .slice A1 ns.length c1, .slice A2 ks.length c2] rfl) _ rfl Tryz.underlying26 rfl (by kernel_rfl)) rfl ?_
    exact HW.out.fin (by rw [Tree.bulk_mk]; have := HBK.out; omega) (by omega)
  · skip
    have hAA : Below w3.heap.size w3 (w3.alloc (.cells #[.int .i64 1, .int .i64 2, .int .i64 (-1), .int .i64 1000000000, .int .i64 (-1000000000)] 3)) := (Below.refl _ _).alloc (Nat.le_refl _) _
    have HA := hide (HT.out.below hAA)
    have hR := Row.new w3 3 [.int .i64 1, .int .i64 2, .int .i64 (-1), .int .i64 1000000000, .int .i64 (-1000000000)]
    have HRW := hide hR
    have HP := hide (pick_any HA.out.rd (n := 5) (by omega) (by omega) (by omega))
    have hz3 : w.heap.size + 1 < w3.heap.size := HT.out.Z.lt
    clear hAA hR
    go_wp2_with fail
    refine HP.out.mono ?_
    rintro e w4 ⟨q, rfl, hq, h4, hg4⟩
    have HU := hide (HA.out.tick hg4 h4)
    have hrow := HRW.out.grown hg4 (fun e => by injection e with e; omega)
    obtain ⟨v, hv, hv1, hv2⟩ : ∃ v : Int, w4.cell? ⟨w3.heap.size, q, none⟩ = some (.int .i64 v) ∧ -1000000000 ≤ v ∧ v ≤ 1000000000 := by
      rw [hrow.cell]
      obtain rfl | rfl | rfl | rfl | rfl : q = 0 ∨ q = 1 ∨ q = 2 ∨ q = 3 ∨ q = 4 := by omega
      · exact ⟨1, rfl, by omega, by omega⟩
      · exact ⟨2, rfl, by omega, by omega⟩
      · exact ⟨-1, rfl, by omega, by omega⟩
      · exact ⟨1000000000, rfl, by omega, by omega⟩
      · exact ⟨-1000000000, rfl, by omega, by omega⟩
    have hql : w3.heap.size < w4.heap.size := hrow.lt
    have hq5 : (q : Int) < 5 := by omega
    clear HP HT HA h4 hg4 hrow HRW
    have b1 := HU.out.X.cell 1
    have bf1 := HU.out.X.frozen 1
    have bl_ := HU.out.X.lt
    go_upto_region 28 with fail
    generalize hwz : World.setCell _ _ _ = wz
    have HW := hide (show SpT s v x ns ks A1 c1 A2 c2 f1 f2 (f1 ++ f2) lo g L w wz (k1 + 1 + 1) from by rw [← hwz]; exact HU.out.setn (wfiR (by omega) (by omega)))
    clear hwz HU b1 bf1 bl_ hv hql
    have b0 := HW.out.X.cell 0
    have bf0 := HW.out.X.frozen 0
    have b1 := HW.out.X.cell 1
    have bf1 := HW.out.X.frozen 1
    have b2 := HW.out.X.cell 2
    have bf2 := HW.out.X.frozen 2
    have b3 := HW.out.X.cell 3
    have bf3 := HW.out.X.frozen 3
    have b4 := HW.out.X.cell 4
    have bf4 := HW.out.X.frozen 4
    have bl := HW.out.X.lt
    have r0 := HW.out.Z.cell 0
    have rf0 := HW.out.Z.frozen 0
    have r1 := HW.out.Z.cell 1
    have rf1 := HW.out.Z.frozen 1
    have r2 := HW.out.Z.cell 2
    have rf2 := HW.out.Z.frozen 2
    have r3 := HW.out.Z.cell 3
    have rf3 := HW.out.Z.frozen 3
    have r4 := HW.out.Z.cell 4
    have rf4 := HW.out.Z.frozen 4
    have rl := HW.out.Z.lt
    go_wp2
    refine bodyPost_ret (ret_row rfl _ _ (w.heap.size + 1) 26 [.int .i64 s, .int .i64 v, .string x, .slice A1 ns.length c1, .slice A2 ks.length c2] (HW.out.Z.setAll [.int .i64 s, .int .i64 v, .string x, .slice A1 ns.length c1, .slice A2 ks.length c2] rfl) _ rfl Tryz.underlying26 rfl (by kernel_rfl)) rfl ?_
    exact HW.out.fin (by rw [Tree.bulk_mk]; have := HBK.out; omega) (by omega)
  · skip
    have HM := hide (many_any ⟨#[120]⟩ 61 w3 (by decide) (by omega))
    go_wp2_with fail
    refine HM.out.mono ?_
    rintro e w4 ⟨o, rfl, ho, hw4⟩
    rw [hw4]
    clear hw4 w4 HM
    have hAA : Below w3.heap.size w3 (w3.alloc (.cells #[.string ⟨#[120]⟩, .string ⟨#[34]⟩, .string ⟨#[10]⟩, .string o, .string ⟨#[127]⟩] 9)) := (Below.refl _ _).alloc (Nat.le_refl _) _
    have HA := hide (HT.out.below hAA)
    have hz3 : w.heap.size + 1 < w3.heap.size := HT.out.Z.lt
    have HOF := hide (of_any HA.out.rd (by omega) [⟨#[120]⟩, ⟨#[34]⟩, ⟨#[10]⟩, o, ⟨#[127]⟩] w3.heap.size 5 (by simp) (by simp) (by omega) (by rw [World.size_alloc]; omega) (fun j hj => by
      have h := (Row.new w3 9 [.string ⟨#[120]⟩, .string ⟨#[34]⟩, .string ⟨#[10]⟩, .string o, .string ⟨#[127]⟩]).cell j
      refine h.trans ?_
      have hj5 : j < 5 := hj
      obtain rfl | rfl | rfl | rfl | rfl : j = 0 ∨ j = 1 ∨ j = 2 ∨ j = 3 ∨ j = 4 := by omega
      all_goals rfl))
    clear hAA HT
    go_wp2_with fail
    refine HOF.out.mono ?_
    rintro e w4 ⟨q, hq, rfl, h4, hg4⟩
    have hqs : q.size ≤ 61 := by
      simp only [List.mem_cons, List.not_mem_nil, or_false] at hq
      rcases hq with rfl | rfl | rfl | rfl | rfl
      · decide
      · decide
      · decide
      · omega
      · decide
    have HU := hide (HA.out.tick hg4 h4)
    clear HOF HA h4 hg4 hq
    have b2 := HU.out.X.cell 2
    have bf2 := HU.out.X.frozen 2
    have bl_ := HU.out.X.lt
    go_upto_region 28 with fail
    generalize hwz : World.setCell _ _ _ = wz
    have HW := hide (show SpT s n q ns ks A1 c1 A2 c2 f1 f2 (f1 ++ f2) lo g L w wz (k1 + 1 + 1) from by rw [← hwz]; exact HU.out.setx (by unfold maxLen; omega))
    clear hwz HU b2 bf2 bl_
    have b0 := HW.out.X.cell 0
    have bf0 := HW.out.X.frozen 0
    have b1 := HW.out.X.cell 1
    have bf1 := HW.out.X.frozen 1
    have b2 := HW.out.X.cell 2
    have bf2 := HW.out.X.frozen 2
    have b3 := HW.out.X.cell 3
    have bf3 := HW.out.X.frozen 3
    have b4 := HW.out.X.cell 4
    have bf4 := HW.out.X.frozen 4
    have bl := HW.out.X.lt
    have r0 := HW.out.Z.cell 0
    have rf0 := HW.out.Z.frozen 0
    have r1 := HW.out.Z.cell 1
    have rf1 := HW.out.Z.frozen 1
    have r2 := HW.out.Z.cell 2
    have rf2 := HW.out.Z.frozen 2
    have r3 := HW.out.Z.cell 3
    have rf3 := HW.out.Z.frozen 3
    have r4 := HW.out.Z.cell 4
    have rf4 := HW.out.Z.frozen 4
    have rl := HW.out.Z.lt
    go_wp2
    refine bodyPost_ret (ret_row rfl _ _ (w.heap.size + 1) 26 [.int .i64 s, .int .i64 n, .string q, .slice A1 ns.length c1, .slice A2 ks.length c2] (HW.out.Z.setAll [.int .i64 s, .int .i64 n, .string q, .slice A1 ns.length c1, .slice A2 ks.length c2] rfl) _ rfl Tryz.underlying26 rfl (by kernel_rfl)) rfl ?_
    exact HW.out.fin (by rw [Tree.bulk_mk]; have := HBK.out; omega) (by omega)
  · skip
    have hl3 : w.heap.size + 2 ≤ w3.heap.size := HT.out.Z.lt
    have hAA : Below w3.heap.size w3 (w3.alloc (.cells #[] 9)) := (Below.refl _ _).alloc (Nat.le_refl _) _
    obtain ⟨usk, hok, hsk⟩ := (HT.out.o1.below hAA HT.out.hn.leftK.lt).srcStrs
    have HE := hide (OwS.emptyL (f := strC) w3 lo (by omega) 9 1)
    have HOK := hide hok
    have HSK := hide hsk
    have HAA := hide hAA
    clear hok hsk hAA
    have b3 := HT.out.X.cell 3
    have bl_ := HT.out.X.lt
    go_wp2_with (first
      | (at_builtin; refine wpl_app rfl _ _ 23 rfl ia _ 16 Tryz.underlying23 HIa.out ja0 ja1 ja2 rfl (by decide) strC_len rfl HE.out ns HOK.out (New.nil _ _) (fun q _ hq => by cases hq) _ _ _ rfl rfl HSK.out (by simp; omega) (by decide) (by rw [World.size_alloc]; omega) ?_; intro A5 n5 c5 w5 hn5 hown5 hgb5; have hgb6 : GB (w3.alloc (.cells #[] 9)) w5 (.slice (some ⟨w3.heap.size, 0, none⟩) 0 0) (.slice A5 n5 c5) := hgb5; have hown6 : OwS w5 lo 9 1 strC (.slice A5 n5 c5) ns usk [] := hown5; have HB5 := hide (HAA.out.trans (hgb6.toBelow (B := w3.heap.size) (by rw [World.size_alloc]; omega) (fun q e => by (have e2 : w3.heap.size = q := by simpa [Value.ownBlock] using e); omega))); have HGE5 := hide (fun q (e : (Value.slice A5 n5 c5).ownBlock = some q) => show w3.heap.size ≤ q from hgb6.from (B := w3.heap.size) (by rw [World.size_alloc]; omega) (fun q e => by (have e2 : w3.heap.size = q := by simpa [Value.ownBlock] using e); omega) q e); have HS5 := hide (HT.out.below HB5.out); have HO5 := hide hown6; have HN5 := hide hn5; clear hown5 hown6 hgb5 hgb6 hn5)
      | fail)
    have hA6 : Below w5.heap.size w5 (w5.alloc (.cells #[.string ⟨#[97]⟩, .string ⟨#[122]⟩, .string ⟨#[65]⟩, .string ⟨#[]⟩, .string ⟨#[116, 111, 111, 108, 111, 110, 103, 97, 97]⟩] 9)) := (Below.refl _ _).alloc (Nat.le_refl _) _
    have HS6 := hide (HS5.out.below hA6)
    have HO6 := hide (HO5.out.alloc (.cells #[.string ⟨#[97]⟩, .string ⟨#[122]⟩, .string ⟨#[65]⟩, .string ⟨#[]⟩, .string ⟨#[116, 111, 111, 108, 111, 110, 103, 97, 97]⟩] 9))
    have hz5 : w.heap.size + 1 < w5.heap.size := HS5.out.Z.lt
    have HOF := hide (of_any HS6.out.rd (by omega) [⟨#[97]⟩, ⟨#[122]⟩, ⟨#[65]⟩, ⟨#[]⟩, ⟨#[116, 111, 111, 108, 111, 110, 103, 97, 97]⟩] w5.heap.size 5 (by decide) (by decide) (by omega) (by rw [World.size_alloc]; omega) (fun j hj => by
      have h := (Row.new w5 9 [.string ⟨#[97]⟩, .string ⟨#[122]⟩, .string ⟨#[65]⟩, .string ⟨#[]⟩, .string ⟨#[116, 111, 111, 108, 111, 110, 103, 97, 97]⟩]).cell j
      refine h.trans ?_
      have hj3 : j < 5 := hj
      obtain rfl | rfl | rfl | rfl | rfl : j = 0 ∨ j = 1 ∨ j = 2 ∨ j = 3 ∨ j = 4 := by omega
      all_goals rfl))
    have hsz6 : w3.heap.size ≤ (w5.alloc (.cells #[.string ⟨#[97]⟩, .string ⟨#[122]⟩, .string ⟨#[65]⟩, .string ⟨#[]⟩, .string ⟨#[116, 111, 111, 108, 111, 110, 103, 97, 97]⟩] 9)).heap.size := by have := HB5.out.size; rw [World.size_alloc]; omega
    clear hA6 b3 bl_
    go_wp2_with fail
    refine HOF.out.mono ?_
    rintro e w7 ⟨s7, hs7, rfl, hr7, hg7⟩
    have hs1 : s7.size ≤ 9 := by
      simp only [List.mem_cons, List.not_mem_nil, or_false] at hs7
      rcases hs7 with rfl | rfl | rfl | rfl | rfl <;> decide
    have HS7 := hide (HS6.out.tick hg7 hr7)
    have HO7 := hide ((HO6.out.kept hg7 (fun q e => by injection e with e; subst e; exact ⟨HO6.out.nlow hgl, HO6.out.low hgl⟩)).alloc (.cells #[.string s7] 9))
    have HXS := hide (fun W => show OwC W ([s7].flatMap strC) [.string s7] [] from ⟨[], [], ⟨rfl, show s7.size ≤ maxLen by (unfold maxLen; omega), rfl⟩, rfl, rfl⟩)
    have hsz7 : w3.heap.size ≤ w7.heap.size := Nat.le_trans hsz6 hg7.size
    have HSA := hide (show lo ≤ (w7.alloc (.cells #[.string s7] 9)).heap.size from by rw [World.size_alloc]; omega)
    have hF2 := hide (show Lt f2 w3.heap.size from HT.out.hn.rightK.lt)
    have HF3 := hide (show Lt (f1 ++ f2) w3.heap.size from HT.out.hn.lt)
    clear hs7 hr7 hg7 HOF HS6 HO6 HS5 HO5 HE HOK HSK HT
    go_upto_region 28 with (first
      | (at_builtin; refine wpl_app rfl _ _ 23 rfl ia _ 16 Tryz.underlying23 HIa.out ja0 ja1 ja2 rfl (by decide) strC_len rfl HO7.out [s7] (HXS.out _) (New.nil _ _) (fun q _ hq => by cases hq) _ 1 1 rfl rfl (SrcAt.new w7 _ _ _ _) (by simp; omega) (by decide) HSA.out ?_; intro A9 n9 c9 w9 hn9 hown9 hgb9; have hgba : GB (w7.alloc (.cells #[.string s7] 9)) w9 (.slice A5 n5 c5) (.slice A9 n9 c9) := hgb9; have hown : OwS w9 lo 9 1 strC (.slice A9 n9 c9) (ns ++ [s7]) (usk ++ [.string s7]) [] := hown9; have HB9 := hide (((Below.refl w3.heap.size w7).alloc hsz7 (.cells #[.string s7] 9)).trans (hgba.toBelow (B := w3.heap.size) (Nat.le_trans hsz7 (by rw [World.size_alloc]; omega)) HGE5.out)); have HGE9 := hide (hgba.from (B := w3.heap.size) (Nat.le_trans hsz7 (by rw [World.size_alloc]; omega)) HGE5.out); have HS9 := hide (HS7.out.low HB9.out hl3 HF3.out); have HO9 := hide hown; have HN9 := hide hn9; clear hown9 hgb9 hgba hown hn9; have b3 := HS9.out.X.cell 3; have bf3 := HS9.out.X.frozen 3; have bl_ := HS9.out.X.lt)
      | fail)
    generalize hwz : World.setCell _ _ _ = wz
    obtain rfl : n9 = (ns ++ [s7]).length := by rw [HN9.out]; simp
    obtain ⟨p1, oo1, nn1, ss1⟩ := HO9.out.toOw'
    have HW := hide (show SpT s n x (ns ++ [s7]) ks A9 c9 A2 c2 p1 f2 (f1 ++ f2) lo g L w wz (k1 + 1 + 1) from by
      rw [← hwz]
      exact HS9.out.setns oo1 nn1 (fun b hb => by
        rcases ss1 b hb with h | h
        · have h1 := HGE9.out b h
          exact ⟨by omega, fun hm => by have := hF2.out b hm; omega⟩
        · cases h))
    clear hwz oo1 nn1 ss1 HS9 HO9 HN9 b3 bf3 bl_ HS7 HO7 HB9 HGE9 HB5 HGE5 HN5 HAA HXS HSA hF2
    obtain ⟨nz, hnz⟩ : ∃ q, ns ++ [s7] = q := ⟨_, rfl⟩
    rw [hnz] at HW
    have HNZ := hide hnz
    clear hnz
    have b0 := HW.out.X.cell 0
    have bf0 := HW.out.X.frozen 0
    have b1 := HW.out.X.cell 1
    have bf1 := HW.out.X.frozen 1
    have b2 := HW.out.X.cell 2
    have bf2 := HW.out.X.frozen 2
    have b3 := HW.out.X.cell 3
    have bf3 := HW.out.X.frozen 3
    have b4 := HW.out.X.cell 4
    have bf4 := HW.out.X.frozen 4
    have bl := HW.out.X.lt
    have r0 := HW.out.Z.cell 0
    have rf0 := HW.out.Z.frozen 0
    have r1 := HW.out.Z.cell 1
    have rf1 := HW.out.Z.frozen 1
    have r2 := HW.out.Z.cell 2
    have rf2 := HW.out.Z.frozen 2
    have r3 := HW.out.Z.cell 3
    have rf3 := HW.out.Z.frozen 3
    have r4 := HW.out.Z.cell 4
    have rf4 := HW.out.Z.frozen 4
    have rl := HW.out.Z.lt
    go_wp2
    refine bodyPost_ret (ret_row rfl _ _ (w.heap.size + 1) 26 [.int .i64 s, .int .i64 n, .string x, .slice A9 nz.length c9, .slice A2 ks.length c2] (HW.out.Z.setAll [.int .i64 s, .int .i64 n, .string x, .slice A9 nz.length c9, .slice A2 ks.length c2] rfl) _ rfl Tryz.underlying26 rfl (by kernel_rfl)) rfl ?_
    exact HW.out.fin (by rw [Tree.bulk_mk, ← HNZ.out, bulkStrs_snoc]; have := HBK.out; omega) (by omega)
  · skip
    have hl3 : w.heap.size + 2 ≤ w3.heap.size := HT.out.Z.lt
    have hAA : Below w3.heap.size w3 (w3.alloc (.cells #[] 26)) := (Below.refl _ _).alloc (Nat.le_refl _) _
    obtain ⟨usk, fk, hok, hsk, hsub, hnk⟩ := (HT.out.o2.below hAA HT.out.hn.rightK.lt).srcNew (HT.out.hn.rightK.alloc _)
    have HE := hide (OwS.emptyL (f := Tree.cells) w3 lo (by omega) 26 5)
    have HNO := hide (show ∀ q, (Value.slice (some ⟨w3.heap.size, 0, none⟩) 0 0).ownBlock = some q → q ∉ fk from fun q e hm => by
      have e2 : w3.heap.size = q := by simpa [Value.ownBlock] using e
      have := HT.out.hn.rightK.lt _ (hsub hm)
      omega)
    have HOK := hide hok
    have HSK := hide hsk
    have HSUB := hide hsub
    have HNK := hide (show New (w3.alloc (.cells #[] 26)) ([] ++ fk) lo from hnk)
    have HAA := hide hAA
    clear hok hsk hnk hAA hsub
    have b4 := HT.out.X.cell 4
    have bl_ := HT.out.X.lt
    have HLF := hide (fun W => num0_ow W)
    have HF3 := hide (show Lt (f1 ++ f2) w3.heap.size from HT.out.hn.lt)
    go_upto_region 28 with (first
      | (at_builtin; refine wpl_app rfl _ _ 24 rfl ib _ 80 Tryz.underlying24 HIb.out jb0 jb1 jb2 rfl (by decide) Tree.cells_len rfl HOA.out [Tree.mk 1 0 .empty [] []] (HLF.out _) HNA.out (fun q _ hq => by cases hq) _ 1 1 rfl rfl (SrcAt.new w5 _ _ _ _) (by simp; omega) (by decide) HSA.out ?_; intro A9 n9 c9 w9 hn9 hown9 hgb9; have hgba : GB (w5.alloc (.cells #[.int .i64 1, .int .i64 0, .string .empty, .slice none 0 0, .slice none 0 0] 26)) w9 (.slice A5 n5 c5) (.slice A9 n9 c9) := hgb9; have hown : OwS w9 lo 26 5 Tree.cells (.slice A9 n9 c9) (ks ++ [Tree.mk 1 0 .empty [] []]) (usk ++ [.int .i64 1, .int .i64 0, .string .empty, .slice none 0 0, .slice none 0 0]) (fk ++ []) := hown9; have HB9 := hide (((Below.refl w3.heap.size w5).alloc (HB5.out.size) (.cells #[.int .i64 1, .int .i64 0, .string .empty, .slice none 0 0, .slice none 0 0] 26)).trans (hgba.toBelow (B := w3.heap.size) (Nat.le_trans HB5.out.size (by rw [World.size_alloc]; omega)) HGE5.out)); have HGE9 := hide (hgba.from (B := w3.heap.size) (Nat.le_trans HB5.out.size (by rw [World.size_alloc]; omega)) HGE5.out); have HS9 := hide (HT.out.below (HB5.out.trans HB9.out)); have HO9 := hide hown; have HN9 := hide hn9; clear hown9 hgb9 hgba hown hn9; have b4 := HS9.out.X.cell 4; have bf4 := HS9.out.X.frozen 4; have bl_ := HS9.out.X.lt)
      | (at_builtin; refine wpl_app rfl _ _ 24 rfl ib _ 80 Tryz.underlying24 HIb.out jb0 jb1 jb2 rfl (by decide) Tree.cells_len rfl HE.out ks HOK.out HNK.out HNO.out _ _ _ rfl rfl HSK.out (by simp; omega) (by decide) (by rw [World.size_alloc]; omega) ?_; intro A5 n5 c5 w5 hn5 hown5 hgb5; have hgb6 : GB (w3.alloc (.cells #[] 26)) w5 (.slice (some ⟨w3.heap.size, 0, none⟩) 0 0) (.slice A5 n5 c5) := hgb5; have hown6 : OwS w5 lo 26 5 Tree.cells (.slice A5 n5 c5) ks usk fk := hown5; have HB5 := hide (HAA.out.trans (hgb6.toBelow (B := w3.heap.size) (by rw [World.size_alloc]; omega) (fun q e => by (have e2 : w3.heap.size = q := by simpa [Value.ownBlock] using e); omega))); have HGE5 := hide (fun q (e : (Value.slice A5 n5 c5).ownBlock = some q) => show w3.heap.size ≤ q from hgb6.from (B := w3.heap.size) (by rw [World.size_alloc]; omega) (fun q e => by (have e2 : w3.heap.size = q := by simpa [Value.ownBlock] using e); omega) q e); have HS5 := hide (HT.out.below HB5.out); have HO5 := hide hown6; have HN5 := hide hn5; clear hown5 hown6 hgb5 hgb6 hn5; have HOA := hide (HO5.out.alloc (.cells #[.int .i64 1, .int .i64 0, .string .empty, .slice none 0 0, .slice none 0 0] 26)); have HNA := hide (show New (w5.alloc (.cells #[.int .i64 1, .int .i64 0, .string .empty, .slice none 0 0, .slice none 0 0] 26)) (fk ++ []) lo from by (rw [List.append_nil]; exact HO5.out.new.alloc _)); have HSA := hide (show lo ≤ (w5.alloc (.cells #[.int .i64 1, .int .i64 0, .string .empty, .slice none 0 0, .slice none 0 0] 26)).heap.size from by (have := HB5.out.size; rw [World.size_alloc]; omega)))
      | fail)
    generalize hwz : World.setCell _ _ _ = wz2
    obtain rfl : n9 = (ks ++ [Tree.mk 1 0 .empty [] []]).length := by rw [HN9.out]; simp
    obtain ⟨p2, oo2, nn2, ss2⟩ := HO9.out.toOw'
    have HW2 := hide (show SpT s n x ns (ks ++ [Tree.mk 1 0 .empty [] []]) A1 c1 A9 c9 f1 p2 (f1 ++ f2) lo g L w wz2 (k1 + 1) from by
      rw [← hwz]
      exact HS9.out.setks oo2 nn2 (fun b hb => by
        rcases ss2 b hb with h | h
        · have h1 := HGE9.out b h
          exact ⟨.inr (by omega), fun hm => by have := HF3.out.left b hm; omega⟩
        · rw [List.append_nil] at h
          refine ⟨HS9.out.hs b (List.mem_append_right _ (HSUB.out h)), fun hm => ?_⟩
          exact (List.nodup_append.1 HS9.out.hn.nd).2.2 b hm b (HSUB.out h) rfl))
    clear hwz oo2 nn2 ss2 HS9 HO9 HN9 b4 bf4 bl_ HB9 HGE9 HE HOK HSK HNK HNO
    obtain ⟨kz, hkz⟩ : ∃ q, ks ++ [Tree.mk 1 0 .empty [] []] = q := ⟨_, rfl⟩
    rw [hkz] at HW2
    have HKZ := hide hkz
    clear hkz
    have b0 := HW2.out.X.cell 0
    have bf0 := HW2.out.X.frozen 0
    have b1 := HW2.out.X.cell 1
    have bf1 := HW2.out.X.frozen 1
    have b2 := HW2.out.X.cell 2
    have bf2 := HW2.out.X.frozen 2
    have b3 := HW2.out.X.cell 3
    have bf3 := HW2.out.X.frozen 3
    have b4 := HW2.out.X.cell 4
    have bf4 := HW2.out.X.frozen 4
    have bl := HW2.out.X.lt
    have r0 := HW2.out.Z.cell 0
    have rf0 := HW2.out.Z.frozen 0
    have r1 := HW2.out.Z.cell 1
    have rf1 := HW2.out.Z.frozen 1
    have r2 := HW2.out.Z.cell 2
    have rf2 := HW2.out.Z.frozen 2
    have r3 := HW2.out.Z.cell 3
    have rf3 := HW2.out.Z.frozen 3
    have r4 := HW2.out.Z.cell 4
    have rf4 := HW2.out.Z.frozen 4
    have rl := HW2.out.Z.lt
    go_wp2
    refine bodyPost_ret (ret_row rfl _ _ (w.heap.size + 1) 26 [.int .i64 s, .int .i64 n, .string x, .slice A1 ns.length c1, .slice A9 kz.length c9] (HW2.out.Z.setAll [.int .i64 s, .int .i64 n, .string x, .slice A1 ns.length c1, .slice A9 kz.length c9] rfl) _ rfl Tryz.underlying26 rfl (by kernel_rfl)) rfl ?_
    exact HW2.out.fin (by rw [Tree.bulk_mk, ← HKZ.out, tbulkS_snoc, Tree.bulk_leaf, List.length_append, List.length_singleton]; have := HBK.out; omega) (by omega)
  · skip
    have hl3 : w.heap.size + 2 ≤ w3.heap.size := HT.out.Z.lt
    have hAA : Below w3.heap.size w3 (w3.alloc (.cells #[] 9)) := (Below.refl _ _).alloc (Nat.le_refl _) _
    obtain ⟨usk, hok, hsk⟩ := (HT.out.o1.below hAA HT.out.hn.leftK.lt).srcStrs
    have HE := hide (OwS.emptyL (f := strC) w3 lo (by omega) 9 1)
    have HOK := hide hok
    have HSK := hide hsk
    have HAA := hide hAA
    clear hok hsk hAA
    have b3 := HT.out.X.cell 3
    have bl_ := HT.out.X.lt
    go_wp2_with (first
      | (at_builtin; refine wpl_app rfl _ _ 23 rfl ia _ 16 Tryz.underlying23 HIa.out ja0 ja1 ja2 rfl (by decide) strC_len rfl HE.out ns HOK.out (New.nil _ _) (fun q _ hq => by cases hq) _ _ _ rfl rfl HSK.out (by simp; omega) (by decide) (by rw [World.size_alloc]; omega) ?_; intro A5 n5 c5 w5 hn5 hown5 hgb5; have hgb6 : GB (w3.alloc (.cells #[] 9)) w5 (.slice (some ⟨w3.heap.size, 0, none⟩) 0 0) (.slice A5 n5 c5) := hgb5; have hown6 : OwS w5 lo 9 1 strC (.slice A5 n5 c5) ns usk [] := hown5; have HB5 := hide (HAA.out.trans (hgb6.toBelow (B := w3.heap.size) (by rw [World.size_alloc]; omega) (fun q e => by (have e2 : w3.heap.size = q := by simpa [Value.ownBlock] using e); omega))); have HGE5 := hide (fun q (e : (Value.slice A5 n5 c5).ownBlock = some q) => show w3.heap.size ≤ q from hgb6.from (B := w3.heap.size) (by rw [World.size_alloc]; omega) (fun q e => by (have e2 : w3.heap.size = q := by simpa [Value.ownBlock] using e); omega) q e); have HS5 := hide (HT.out.below HB5.out); have HO5 := hide hown6; have HN5 := hide hn5; clear hown5 hown6 hgb5 hgb6 hn5)
      | fail)
    have hA6 : Below w5.heap.size w5 (w5.alloc (.cells #[.string ⟨#[122]⟩, .string ⟨#[122, 122]⟩, .string ⟨#[90]⟩] 9)) := (Below.refl _ _).alloc (Nat.le_refl _) _
    have HS6 := hide (HS5.out.below hA6)
    have HO6 := hide (HO5.out.alloc (.cells #[.string ⟨#[122]⟩, .string ⟨#[122, 122]⟩, .string ⟨#[90]⟩] 9))
    have hz5 : w.heap.size + 1 < w5.heap.size := HS5.out.Z.lt
    have HOF := hide (of_any HS6.out.rd (by omega) [⟨#[122]⟩, ⟨#[122, 122]⟩, ⟨#[90]⟩] w5.heap.size 3 (by decide) (by decide) (by omega) (by rw [World.size_alloc]; omega) (fun j hj => by
      have h := (Row.new w5 9 [.string ⟨#[122]⟩, .string ⟨#[122, 122]⟩, .string ⟨#[90]⟩]).cell j
      refine h.trans ?_
      have hj3 : j < 3 := hj
      obtain rfl | rfl | rfl : j = 0 ∨ j = 1 ∨ j = 2 := by omega
      all_goals rfl))
    have hsz6 : w3.heap.size ≤ (w5.alloc (.cells #[.string ⟨#[122]⟩, .string ⟨#[122, 122]⟩, .string ⟨#[90]⟩] 9)).heap.size := by have := HB5.out.size; rw [World.size_alloc]; omega
    clear hA6 b3 bl_
    go_wp2_with fail
    refine HOF.out.mono ?_
    rintro e w7 ⟨s7, hs7, rfl, hr7, hg7⟩
    have hs1 : s7.size ≤ 2 := by
      simp only [List.mem_cons, List.not_mem_nil, or_false] at hs7
      rcases hs7 with rfl | rfl | rfl <;> decide
    have HS7 := hide (HS6.out.tick hg7 hr7)
    have HO7 := hide ((HO6.out.kept hg7 (fun q e => by injection e with e; subst e; exact ⟨HO6.out.nlow hgl, HO6.out.low hgl⟩)).alloc (.cells #[.string s7] 9))
    have HXS := hide (fun W => show OwC W ([s7].flatMap strC) [.string s7] [] from ⟨[], [], ⟨rfl, show s7.size ≤ maxLen by (unfold maxLen; omega), rfl⟩, rfl, rfl⟩)
    have hsz7 : w3.heap.size ≤ w7.heap.size := Nat.le_trans hsz6 hg7.size
    have HSA := hide (show lo ≤ (w7.alloc (.cells #[.string s7] 9)).heap.size from by rw [World.size_alloc]; omega)
    have hF2 := hide (show Lt f2 w3.heap.size from HT.out.hn.rightK.lt)
    have HF3 := hide (show Lt (f1 ++ f2) w3.heap.size from HT.out.hn.lt)
    clear hs7 hr7 hg7 HOF HS6 HO6 HS5 HO5 HE HOK HSK HT
    go_upto_region 21 with (first
      | (at_builtin; refine wpl_app rfl _ _ 23 rfl ia _ 16 Tryz.underlying23 HIa.out ja0 ja1 ja2 rfl (by decide) strC_len rfl HO7.out [s7] (HXS.out _) (New.nil _ _) (fun q _ hq => by cases hq) _ 1 1 rfl rfl (SrcAt.new w7 _ _ _ _) (by simp; omega) (by decide) HSA.out ?_; intro A9 n9 c9 w9 hn9 hown9 hgb9; have hgba : GB (w7.alloc (.cells #[.string s7] 9)) w9 (.slice A5 n5 c5) (.slice A9 n9 c9) := hgb9; have hown : OwS w9 lo 9 1 strC (.slice A9 n9 c9) (ns ++ [s7]) (usk ++ [.string s7]) [] := hown9; have HB9 := hide (((Below.refl w3.heap.size w7).alloc hsz7 (.cells #[.string s7] 9)).trans (hgba.toBelow (B := w3.heap.size) (Nat.le_trans hsz7 (by rw [World.size_alloc]; omega)) HGE5.out)); have HGE9 := hide (hgba.from (B := w3.heap.size) (Nat.le_trans hsz7 (by rw [World.size_alloc]; omega)) HGE5.out); have HS9 := hide (HS7.out.low HB9.out hl3 HF3.out); have HO9 := hide hown; have HN9 := hide hn9; clear hown9 hgb9 hgba hown hn9; have b3 := HS9.out.X.cell 3; have bf3 := HS9.out.X.frozen 3; have bl_ := HS9.out.X.lt)
      | fail)
    generalize hwz : World.setCell _ _ _ = wz
    obtain rfl : n9 = (ns ++ [s7]).length := by rw [HN9.out]; simp
    obtain ⟨p1, oo1, nn1, ss1⟩ := HO9.out.toOw'
    have HW := hide (show SpT s n x (ns ++ [s7]) ks A9 c9 A2 c2 p1 f2 (f1 ++ f2) lo g L w wz (k1 + 1 + 1) from by
      rw [← hwz]
      exact HS9.out.setns oo1 nn1 (fun b hb => by
        rcases ss1 b hb with h | h
        · have h1 := HGE9.out b h
          exact ⟨by omega, fun hm => by have := hF2.out b hm; omega⟩
        · cases h))
    clear hwz oo1 nn1 ss1 HS9 HO9 HN9 b3 bf3 bl_ HS7 HO7 HB9 HGE9 HB5 HGE5 HN5 HAA HXS HSA hF2
    obtain ⟨nz, hnz⟩ : ∃ q, ns ++ [s7] = q := ⟨_, rfl⟩
    rw [hnz] at HW
    have HNZ := hide hnz
    clear hnz
    obtain ⟨A1b, rfl⟩ : ∃ A, A = A9 := ⟨_, rfl⟩
    obtain ⟨c1b, rfl⟩ : ∃ c, c = c9 := ⟨_, rfl⟩
    have hl3 : w.heap.size + 2 ≤ wz.heap.size := HW.out.Z.lt
    have hAA : Below wz.heap.size wz (wz.alloc (.cells #[] 26)) := (Below.refl _ _).alloc (Nat.le_refl _) _
    obtain ⟨usk, fk, hok, hsk, hsub, hnk⟩ := (HW.out.o2.below hAA HW.out.hn.rightK.lt).srcNew (HW.out.hn.rightK.alloc _)
    have HE := hide (OwS.emptyL (f := Tree.cells) wz lo (by omega) 26 5)
    have HNO := hide (show ∀ q, (Value.slice (some ⟨wz.heap.size, 0, none⟩) 0 0).ownBlock = some q → q ∉ fk from fun q e hm => by
      have e2 : wz.heap.size = q := by simpa [Value.ownBlock] using e
      have := HW.out.hn.rightK.lt _ (hsub hm)
      omega)
    have HOK := hide hok
    have HSK := hide hsk
    have HSUB := hide hsub
    have HNK := hide (show New (wz.alloc (.cells #[] 26)) ([] ++ fk) lo from hnk)
    have HAA := hide hAA
    clear hok hsk hnk hAA hsub
    have b4 := HW.out.X.cell 4
    have bl_ := HW.out.X.lt
    have HLF := hide (fun W => num0_ow W)
    have HF3 := hide (show Lt (p1 ++ f2) wz.heap.size from HW.out.hn.lt)
    go_upto_region 28 with (first
      | (at_builtin; refine wpl_app rfl _ _ 24 rfl ib _ 80 Tryz.underlying24 HIb.out jb0 jb1 jb2 rfl (by decide) Tree.cells_len rfl HOA.out [Tree.mk 1 0 .empty [] []] (HLF.out _) HNA.out (fun q _ hq => by cases hq) _ 1 1 rfl rfl (SrcAt.new w5 _ _ _ _) (by simp; omega) (by decide) HSA.out ?_; intro A9 n9 c9 w9 hn9 hown9 hgb9; have hgba : GB (w5.alloc (.cells #[.int .i64 1, .int .i64 0, .string .empty, .slice none 0 0, .slice none 0 0] 26)) w9 (.slice A5 n5 c5) (.slice A9 n9 c9) := hgb9; have hown : OwS w9 lo 26 5 Tree.cells (.slice A9 n9 c9) (ks ++ [Tree.mk 1 0 .empty [] []]) (usk ++ [.int .i64 1, .int .i64 0, .string .empty, .slice none 0 0, .slice none 0 0]) (fk ++ []) := hown9; have HB9 := hide (((Below.refl wz.heap.size w5).alloc (HB5.out.size) (.cells #[.int .i64 1, .int .i64 0, .string .empty, .slice none 0 0, .slice none 0 0] 26)).trans (hgba.toBelow (B := wz.heap.size) (Nat.le_trans HB5.out.size (by rw [World.size_alloc]; omega)) HGE5.out)); have HGE9 := hide (hgba.from (B := wz.heap.size) (Nat.le_trans HB5.out.size (by rw [World.size_alloc]; omega)) HGE5.out); have HS9 := hide (HW.out.below (HB5.out.trans HB9.out)); have HO9 := hide hown; have HN9 := hide hn9; clear hown9 hgb9 hgba hown hn9; have b4 := HS9.out.X.cell 4; have bf4 := HS9.out.X.frozen 4; have bl_ := HS9.out.X.lt)
      | (at_builtin; refine wpl_app rfl _ _ 24 rfl ib _ 80 Tryz.underlying24 HIb.out jb0 jb1 jb2 rfl (by decide) Tree.cells_len rfl HE.out ks HOK.out HNK.out HNO.out _ _ _ rfl rfl HSK.out (by simp; omega) (by decide) (by rw [World.size_alloc]; omega) ?_; intro A5 n5 c5 w5 hn5 hown5 hgb5; have hgb6 : GB (wz.alloc (.cells #[] 26)) w5 (.slice (some ⟨wz.heap.size, 0, none⟩) 0 0) (.slice A5 n5 c5) := hgb5; have hown6 : OwS w5 lo 26 5 Tree.cells (.slice A5 n5 c5) ks usk fk := hown5; have HB5 := hide (HAA.out.trans (hgb6.toBelow (B := wz.heap.size) (by rw [World.size_alloc]; omega) (fun q e => by (have e2 : wz.heap.size = q := by simpa [Value.ownBlock] using e); omega))); have HGE5 := hide (fun q (e : (Value.slice A5 n5 c5).ownBlock = some q) => show wz.heap.size ≤ q from hgb6.from (B := wz.heap.size) (by rw [World.size_alloc]; omega) (fun q e => by (have e2 : wz.heap.size = q := by simpa [Value.ownBlock] using e); omega) q e); have HS5 := hide (HW.out.below HB5.out); have HO5 := hide hown6; have HN5 := hide hn5; clear hown5 hown6 hgb5 hgb6 hn5; have HOA := hide (HO5.out.alloc (.cells #[.int .i64 1, .int .i64 0, .string .empty, .slice none 0 0, .slice none 0 0] 26)); have HNA := hide (show New (w5.alloc (.cells #[.int .i64 1, .int .i64 0, .string .empty, .slice none 0 0, .slice none 0 0] 26)) (fk ++ []) lo from by (rw [List.append_nil]; exact HO5.out.new.alloc _)); have HSA := hide (show lo ≤ (w5.alloc (.cells #[.int .i64 1, .int .i64 0, .string .empty, .slice none 0 0, .slice none 0 0] 26)).heap.size from by (have := HB5.out.size; rw [World.size_alloc]; omega)))
      | fail)
    generalize hwz : World.setCell _ _ _ = wz2
    obtain rfl : n9 = (ks ++ [Tree.mk 1 0 .empty [] []]).length := by rw [HN9.out]; simp
    obtain ⟨p2, oo2, nn2, ss2⟩ := HO9.out.toOw'
    have HW2 := hide (show SpT s n x nz (ks ++ [Tree.mk 1 0 .empty [] []]) A1b c1b A9 c9 p1 p2 (f1 ++ f2) lo g L w wz2 (k1 + 1 + 1) from by
      rw [← hwz]
      exact HS9.out.setks oo2 nn2 (fun b hb => by
        rcases ss2 b hb with h | h
        · have h1 := HGE9.out b h
          exact ⟨.inr (by omega), fun hm => by have := HF3.out.left b hm; omega⟩
        · rw [List.append_nil] at h
          refine ⟨HS9.out.hs b (List.mem_append_right _ (HSUB.out h)), fun hm => ?_⟩
          exact (List.nodup_append.1 HS9.out.hn.nd).2.2 b hm b (HSUB.out h) rfl))
    clear hwz oo2 nn2 ss2 HS9 HO9 HN9 b4 bf4 bl_ HB9 HGE9 HE HOK HSK HNK HNO
    obtain ⟨kz, hkz⟩ : ∃ q, ks ++ [Tree.mk 1 0 .empty [] []] = q := ⟨_, rfl⟩
    rw [hkz] at HW2
    have HKZ := hide hkz
    clear hkz
    have b0 := HW2.out.X.cell 0
    have bf0 := HW2.out.X.frozen 0
    have b1 := HW2.out.X.cell 1
    have bf1 := HW2.out.X.frozen 1
    have b2 := HW2.out.X.cell 2
    have bf2 := HW2.out.X.frozen 2
    have b3 := HW2.out.X.cell 3
    have bf3 := HW2.out.X.frozen 3
    have b4 := HW2.out.X.cell 4
    have bf4 := HW2.out.X.frozen 4
    have bl := HW2.out.X.lt
    have r0 := HW2.out.Z.cell 0
    have rf0 := HW2.out.Z.frozen 0
    have r1 := HW2.out.Z.cell 1
    have rf1 := HW2.out.Z.frozen 1
    have r2 := HW2.out.Z.cell 2
    have rf2 := HW2.out.Z.frozen 2
    have r3 := HW2.out.Z.cell 3
    have rf3 := HW2.out.Z.frozen 3
    have r4 := HW2.out.Z.cell 4
    have rf4 := HW2.out.Z.frozen 4
    have rl := HW2.out.Z.lt
    go_wp2
    refine bodyPost_ret (ret_row rfl _ _ (w.heap.size + 1) 26 [.int .i64 s, .int .i64 n, .string x, .slice A1b nz.length c1b, .slice A9 kz.length c9] (HW2.out.Z.setAll [.int .i64 s, .int .i64 n, .string x, .slice A1b nz.length c1b, .slice A9 kz.length c9] rfl) _ rfl Tryz.underlying26 rfl (by kernel_rfl)) rfl ?_
    exact HW2.out.fin (by rw [Tree.bulk_mk, ← HKZ.out, ← HNZ.out, bulkStrs_snoc, tbulkS_snoc, Tree.bulk_leaf, List.length_append, List.length_singleton]; have := HBK.out; omega) (by omega)
  · skip
    have hl3 : w.heap.size + 2 ≤ w3.heap.size := HT.out.Z.lt
    have hAA : Below w3.heap.size w3 (w3.alloc (.cells #[] 26)) := (Below.refl _ _).alloc (Nat.le_refl _) _
    have HE := hide (OwS.emptyL (f := Tree.cells) w3 lo (by omega) 26 5)
    have HA := hide (HT.out.below hAA)
    have HLF := hide (fun W => num0_ow W)
    have HF3 := hide (show Lt (f1 ++ f2) w3.heap.size from HT.out.hn.lt)
    clear hAA HT
    have b4 := HA.out.X.cell 4
    have bf4 := HA.out.X.frozen 4
    have bl_ := HA.out.X.lt
    go_upto_region 24 with fail
    generalize hwz : World.setCell _ _ _ = wz
    have HEz := hide (show OwS wz lo 26 5 Tree.cells (.slice (some ⟨w3.heap.size, 0, none⟩) 0 0) [] [] [] from by rw [← hwz]; exact HE.out.setCell (p := ⟨w.heap.size, 4, none⟩) (fun hm => by cases hm) (fun e => by (have e2 : w3.heap.size = w.heap.size := by simpa [Value.ownBlock] using e); omega) _)
    have HW := hide (show SpT s n x ns [] A1 c1 (some ⟨w3.heap.size, 0, none⟩) 0 f1 [] (f1 ++ f2) lo g L w wz (k1 + 1) from by
      rw [← hwz]
      refine HA.out.setks (ks' := []) ?_ (New.nil _ _) (fun b hb => by cases hb)
      unfold Ow
      exact ⟨by simp, _, 0, rfl, Nat.le_refl _, by simp [maxLen], .inl ⟨rfl, rfl⟩⟩)
    have HF0 := hide (show ∀ q, (Value.slice (some ⟨w3.heap.size, 0, none⟩) 0 0).ownBlock = some q → w3.heap.size ≤ q from fun q e => by (have e2 : w3.heap.size = q := by simpa [Value.ownBlock] using e); omega)
    clear hwz HA HE b4 bf4 bl_
    have HXz := hide HW.out.X
    have HBz := hide HW.out.toB
    clear HW
    go_wp2_with fail
    go_loopw [7] (fun iv wr => ∃ (j : Nat) (kz : List Tree) (B : Option Addr) (d : Nat) (us : List Value), iv = .int .i64 (j : Int) ∧ j ≤ 21 ∧ kz.length = j ∧ Tree.bulkS kz = 0 ∧ Row wr w.heap.size 26 [.int .i64 s, .int .i64 n, .string x, .slice A1 ns.length c1, .slice B kz.length d] ∧ SpB s n x ns A1 c1 f1 (f1 ++ f2) lo g L w wr (k1 + 1) ∧ OwS wr lo 26 5 Tree.cells (.slice B kz.length d) kz us [] ∧ (∀ q, (Value.slice B kz.length d).ownBlock = some q → w3.heap.size ≤ q) ∧ w3.heap.size ≤ wr.heap.size) (fun iv _ => 21 - (intOf iv).toNat)
    case atStart => exact ⟨0, [], _, 0, [], rfl, by omega, rfl, rfl, HXz.out, HBz.out, HEz.out, HF0.out, by have := HEz.out.lt w3.heap.size rfl; omega⟩
    case round =>
      obtain ⟨j, kz, B, d, us_, rfl, hj, hkz, hbz, hX, hS, hO, hF, hsz⟩ := hrel
      have HXr := hide hX
      have HSr := hide hS
      have HOr0 := hide hO
      have HOr := hide (hO.alloc (.cells #[.int .i64 1, .int .i64 0, .string .empty, .slice none 0 0, .slice none 0 0] 26))
      have HFr := hide hF
      have HBZ := hide hbz
      have HKZ := hide hkz
      clear hX hS hO hF hbz hkz HXz HBz HEz HF0
      by_cases hjl : j ≤ 20
      · have hji : (j : Int) ≤ 20 := by omega
        have b4 := HXr.out.cell 4
        have bl_ := HXr.out.lt
        have HSA := hide (show lo ≤ (wr.alloc (.cells #[.int .i64 1, .int .i64 0, .string .empty, .slice none 0 0, .slice none 0 0] 26)).heap.size from by rw [World.size_alloc]; omega)
        go_wp2_with (first
          | (at_builtin; refine wpl_app rfl _ _ 24 rfl ib _ 80 Tryz.underlying24 HIb.out jb0 jb1 jb2 rfl (by decide) Tree.cells_len rfl HOr.out [Tree.mk 1 0 .empty [] []] (HLF.out _) (New.nil _ _) (fun q _ hq => by cases hq) _ 1 1 rfl rfl (SrcAt.new wr _ _ _ _) (by have := HKZ.out; omega) (by decide) HSA.out ?_; intro A9 n9 c9 w9 hn9 hown9 hgb9; have hgba : GB (wr.alloc (.cells #[.int .i64 1, .int .i64 0, .string .empty, .slice none 0 0, .slice none 0 0] 26)) w9 (.slice B kz.length d) (.slice A9 n9 c9) := hgb9; have hown : OwS w9 lo 26 5 Tree.cells (.slice A9 n9 c9) (kz ++ [Tree.mk 1 0 .empty [] []]) (us_ ++ [.int .i64 1, .int .i64 0, .string .empty, .slice none 0 0, .slice none 0 0]) [] := hown9; have HB9 := hide (((Below.refl w3.heap.size wr).alloc hsz (.cells #[.int .i64 1, .int .i64 0, .string .empty, .slice none 0 0, .slice none 0 0] 26)).trans (hgba.toBelow (B := w3.heap.size) (by rw [World.size_alloc]; omega) HFr.out)); have HGE9 := hide (hgba.from (B := w3.heap.size) (by rw [World.size_alloc]; omega) HFr.out); have HO9 := hide hown; have HN9 := hide hn9; have r9 := hgba.row (HXr.out.alloc (.cells #[.int .i64 1, .int .i64 0, .string .empty, .slice none 0 0, .slice none 0 0] 26)) (fun e => by have := HFr.out _ e; omega); have c4 := r9.cell 4; have c4f := r9.frozen 4; have c4l := r9.lt; have HR9 := hide r9; clear r9 hown9 hgb9 hgba hown hn9)
          | fail)
        obtain rfl : n9 = (kz ++ [Tree.mk 1 0 .empty [] []]).length := by rw [HN9.out]; simp
        have HS9 := hide ((HSr.out.low HB9.out hl3 HF3.out.left).put 4 (.slice A9 (kz ++ [Tree.mk 1 0 .empty [] []]).length c9))
        have HX9 := hide (show Row (w9.setCell ⟨w.heap.size, 4, none⟩ (.slice A9 (kz ++ [Tree.mk 1 0 .empty [] []]).length c9)) w.heap.size 26 [.int .i64 s, .int .i64 n, .string x, .slice A1 ns.length c1, .slice A9 (kz ++ [Tree.mk 1 0 .empty [] []]).length c9] from HR9.out.set 4 _)
        have HO8 := hide (HO9.out.setCell (p := ⟨w.heap.size, 4, none⟩) (fun hm => by cases hm) (fun e => by have h1 : w3.heap.size ≤ w.heap.size := HGE9.out _ e; omega) (.slice A9 (kz ++ [Tree.mk 1 0 .empty [] []]).length c9))
        have HK9 := hide (show (kz ++ [Tree.mk 1 0 .empty [] []]).length = j + 1 ∧ Tree.bulkS (kz ++ [Tree.mk 1 0 .empty [] []]) = 0 from ⟨by rw [List.length_append, HKZ.out]; rfl, by rw [tbulkS_snoc, HBZ.out]; rfl⟩)
        have hsz9 : w3.heap.size ≤ w9.heap.size := Nat.le_trans hsz HB9.out.size
        obtain ⟨k9, hk9⟩ : ∃ q, kz ++ [Tree.mk 1 0 .empty [] []] = q := ⟨_, rfl⟩
        rw [hk9] at HS9 HX9 HO8 HK9 HGE9 ⊢
        clear hk9 HR9 HO9 HN9 c4 c4f c4l b4 bl_
        go_roundw
        case rel => exact ⟨j + 1, k9, A9, c9, _, by go_num, by omega, HK9.out.1, HK9.out.2, HX9.out, HS9.out, HO8.out, HGE9.out, by simpa using hsz9⟩
        case measure => simp [intOf]; omega
      · have hji : ¬ ((j : Int) ≤ 20) := by omega
        have HKL := hide (show kz.length ≤ 21 from by have := HKZ.out; omega)
        obtain ⟨p2, oo2, nn2, ss2⟩ := HOr0.out.toOw'
        have HW := hide (HSr.out.toT HXr.out oo2 nn2 (fun b hb => by
          rcases ss2 b hb with h | h
          · have h1 := HFr.out b h
            exact ⟨by omega, fun hm => by have := HF3.out.left b hm; omega⟩
          · cases h))
        clear oo2 nn2 ss2
        have b0 := HW.out.X.cell 0
        have bf0 := HW.out.X.frozen 0
        have b1 := HW.out.X.cell 1
        have bf1 := HW.out.X.frozen 1
        have b2 := HW.out.X.cell 2
        have bf2 := HW.out.X.frozen 2
        have b3 := HW.out.X.cell 3
        have bf3 := HW.out.X.frozen 3
        have b4 := HW.out.X.cell 4
        have bf4 := HW.out.X.frozen 4
        have bl := HW.out.X.lt
        have r0 := HW.out.Z.cell 0
        have rf0 := HW.out.Z.frozen 0
        have r1 := HW.out.Z.cell 1
        have rf1 := HW.out.Z.frozen 1
        have r2 := HW.out.Z.cell 2
        have rf2 := HW.out.Z.frozen 2
        have r3 := HW.out.Z.cell 3
        have rf3 := HW.out.Z.frozen 3
        have r4 := HW.out.Z.cell 4
        have rf4 := HW.out.Z.frozen 4
        have rl := HW.out.Z.lt
        go_wp2
        refine bodyPost_ret (ret_row rfl _ _ (w.heap.size + 1) 26 [.int .i64 s, .int .i64 n, .string x, .slice A1 ns.length c1, .slice B kz.length d] (HW.out.Z.setAll [.int .i64 s, .int .i64 n, .string x, .slice A1 ns.length c1, .slice B kz.length d] rfl) _ rfl Tryz.underlying26 rfl (by kernel_rfl)) rfl ?_
        exact HW.out.fin (by rw [Tree.bulk_mk, HBZ.out]; have := HBK.out; have := HKL.out; omega) (by omega)
  · skip
    have hl3 : w.heap.size + 2 ≤ w3.heap.size := HT.out.Z.lt
    have hAA : Below w3.heap.size w3 (w3.alloc (.cells #[] 9)) := (Below.refl _ _).alloc (Nat.le_refl _) _
    have HA := hide (HT.out.below hAA)
    clear hAA HT
    have b3 := HA.out.X.cell 3
    have bf3 := HA.out.X.frozen 3
    have bl_ := HA.out.X.lt
    go_upto_region 28 with fail
    generalize hwz : World.setCell _ _ _ = wz
    have HW := hide (show SpT s n x [] ks (some ⟨w3.heap.size, 0, none⟩) 0 A2 c2 [] f2 (f1 ++ f2) lo g L w wz (k1 + 1) from by
      rw [← hwz]
      refine HA.out.setns (ns' := []) ?_ (New.nil _ _) (fun b hb => by cases hb)
      unfold Ow
      exact ⟨by simp, _, 0, rfl, Nat.le_refl _, by simp [maxLen], .inl ⟨rfl, rfl⟩⟩)
    clear hwz HA b3 bf3 bl_
    have b0 := HW.out.X.cell 0
    have bf0 := HW.out.X.frozen 0
    have b1 := HW.out.X.cell 1
    have bf1 := HW.out.X.frozen 1
    have b2 := HW.out.X.cell 2
    have bf2 := HW.out.X.frozen 2
    have b3 := HW.out.X.cell 3
    have bf3 := HW.out.X.frozen 3
    have b4 := HW.out.X.cell 4
    have bf4 := HW.out.X.frozen 4
    have bl := HW.out.X.lt
    have r0 := HW.out.Z.cell 0
    have rf0 := HW.out.Z.frozen 0
    have r1 := HW.out.Z.cell 1
    have rf1 := HW.out.Z.frozen 1
    have r2 := HW.out.Z.cell 2
    have rf2 := HW.out.Z.frozen 2
    have r3 := HW.out.Z.cell 3
    have rf3 := HW.out.Z.frozen 3
    have r4 := HW.out.Z.cell 4
    have rf4 := HW.out.Z.frozen 4
    have rl := HW.out.Z.lt
    go_wp2
    refine bodyPost_ret (ret_row rfl _ _ (w.heap.size + 1) 26 [.int .i64 s, .int .i64 n, .string x, .slice (some ⟨w3.heap.size, 0, none⟩) 0 0, .slice A2 ks.length c2] (HW.out.Z.setAll [.int .i64 s, .int .i64 n, .string x, .slice (some ⟨w3.heap.size, 0, none⟩) 0 0, .slice A2 ks.length c2] rfl) _ rfl Tryz.underlying26 rfl (by kernel_rfl)) rfl ?_
    exact HW.out.fin (by rw [Tree.bulk_mk]; have := HBK.out; have e : bulkStrs [] = 0 := rfl; omega) (by omega)
theorem spoilT_any (x : Tree) : SpoilTr x := Tree.ind (fun k ih => by
  obtain ⟨s, n, x, ns, ks⟩ := k
  exact spoilT_of s n x ns ks ih) x
end Go.Proofs.YtnaecdoeldoipaaGreatDoor
set_option linter.unusedVariables false
set_option linter.unusedSimpArgs false
namespace Go.Proofs.YtnaecdoeldoipaaGreatDoor
open Go.ChangeShapes Go.WideShapes Go.ChangeAt Go.RowKit

theorem ret_row2 {P : Program} {fn : Func} {p q : Tmp} {ty tz : TypeId} (h : fn.results = #[.cell p ty, .cell q tz]) (tmps : Array Value) (w : World) (g : Nat) (t : TypeId) (cs : List Value) (hr : Row w g t cs) (g2 : Nat) (t2 : TypeId) (cs2 : List Value) (hr2 : Row w g2 t2 cs2) (d d2 : TypeDesc)
    (hp : tmps.getD p undef = .pointer (some ⟨g, 0, none⟩)) (hq : tmps.getD q undef = .pointer (some ⟨g2, 0, none⟩)) (hu : P.underlying ty = some d) (hu2 : P.underlying tz = some d2) (hd : (match d with | .struct _ | .array _ _ => true | _ => false) = true) (hd2 : (match d2 with | .struct _ | .array _ _ => true | _ => false) = true) (hi : (P.info? ty).map (·.size) = some cs.length) (hi2 : (P.info? tz).map (·.size) = some cs2.length) :
    (results fn tmps).run P w = .ok (.tuple #[.agg cs.toArray, .agg cs2.toArray]) w := by
  have h1 := run_loadVar_row w g t ty cs.toArray (0, 0) d hr hu hd (by simpa using hi)
  have h2 := run_loadVar_row w g2 t2 tz cs2.toArray (0, 0) d2 hr2 hu2 hd2 (by simpa using hi2)
  have e : (results fn tmps).run P w = ((asAddr (tmps.getD p undef)).run P w).andThen fun a w1 => ((loadVar ty a).run P w1).andThen fun v w2 => ((asAddr (tmps.getD q undef)).run P w2).andThen fun a2 w3 => ((loadVar tz a2).run P w3).andThen fun v2 w4 => .ok (.tuple #[v, v2]) w4 := by
    simp only [results, h]
    simp [Sem.run_bind, Result.andThen]
  rw [e, hp, hq]
  simp [asAddr, h1, h2, Result.andThen]
theorem spoilK_any (x : Kind) : SpoilK x := Kind.ind (fun k ih => spoilK_of k ih) x
def KHOut (w : World) (e : Ending) (w' : World) : Prop :=
  ∃ (k : Kind) (t : Tree) (us : List Value) (f1 : List Nat) (vs : List Value) (f2 : List Nat), e = .returned (.tuple #[.agg us.toArray, .agg vs.toArray]) ∧ OwC w' k.cells us f1 ∧ Lt f1 w'.heap.size ∧ OwC w' t.cells vs f2 ∧ Lt f2 w'.heap.size ∧ k.bulk ≤ 100000 ∧ t.bulk ≤ 700000 ∧ Below w.heap.size w w'
theorem kh_fin {w W : World} {k : Kind} {t : Tree} {us vs : List Value} {f1 f2 : List Nat} (o1 : OwC W k.cells us f1) (l1 : Lt f1 W.heap.size) (n1 : ∀ q ∈ f1, w.heap.size + 1 < q) (o2 : OwC W t.cells vs f2) (l2 : Lt f2 W.heap.size) (n2 : ∀ q ∈ f2, w.heap.size + 1 < q) (b1 : k.bulk ≤ 100000) (b2 : t.bulk ≤ 700000) (hb : Below w.heap.size w W) :
    KHOut w (.returned (.tuple #[.agg us.toArray, .agg vs.toArray])) (putN (putN W w.heap.size 0 us) (w.heap.size + 1) 0 vs) := by
  have g1 := setN_grown us 0 (grown_refl W (some w.heap.size))
  have g2 := setN_grown vs 0 (grown_refl (putN W w.heap.size 0 us) (some (w.heap.size + 1)))
  have m1 : ∀ f : List Nat, (∀ q ∈ f, w.heap.size + 1 < q) → w.heap.size ∉ f ∧ w.heap.size + 1 ∉ f := fun f h => ⟨fun hm => by have := h _ hm; omega, fun hm => by have := h _ hm; omega⟩
  exact ⟨k, t, us, f1, vs, f2, rfl, (o1.grown g1 l1 (m1 f1 n1).1).grown g2 (l1.mono g1.size) (m1 f1 n1).2, (l1.mono g1.size).mono g2.size, (o2.grown g1 l2 (m1 f2 n2).1).grown g2 (l2.mono g1.size) (m1 f2 n2).2, (l2.mono g1.size).mono g2.size, b1, b2,
    (hb.trans (below_of_grown g1 (Nat.le_refl _) hb.size)).trans (below_of_grown g2 (by omega) (Nat.le_trans hb.size g1.size))⟩
/-- the state: two boxes, what they hold, two blocks for the results, the source -/
structure KHS (w W : World) (lo bk bt : Nat) (x : Kind) (vx : List Value) (fx : List Nat) (t : Tree) (vt : List Value) (ft : List Nat) (g : Nat) (L : List UInt8) (k : Nat) : Prop where
  X : Row W bk 38 vx
  Y : Row W bt 26 vt
  ox : OwC W x.cells vx fx
  ot : OwC W t.cells vt ft
  nx : New W fx lo
  nt : New W ft lo
  zk : Row W w.heap.size 38 [.int .i64 0, .slice none 0 0, .slice none 0 0]
  zt : Row W (w.heap.size + 1) 26 [.int .i64 0, .int .i64 0, .string .empty, .slice none 0 0, .slice none 0 0]
  rd : RdD W g L k
  bl : Below w.heap.size w W
  glo : g < lo
  gz : w.heap.size + 1 < g
  kl : lo ≤ bk
  tl : lo ≤ bt
theorem KHS.tick {w W W' : World} {lo bk bt : Nat} {x : Kind} {vx : List Value} {fx : List Nat} {t : Tree} {vt : List Value} {ft : List Nat} {g : Nat} {L : List UInt8} {k k2 : Nat} (h : KHS w W lo bk bt x vx fx t vt ft g L k) (hg : W.grownBy W' (some g)) (hr : RdD W' g L k2) : KHS w W' lo bk bt x vx fx t vt ft g L k2 := by
  have h1 := h.glo
  have h2 := h.gz
  have h3 := h.kl
  have h4 := h.tl
  have nx := h.nx.out h1
  have nt := h.nt.out h1
  exact ⟨h.X.grown hg (fun e => by injection e with e; omega), h.Y.grown hg (fun e => by injection e with e; omega), h.ox.grown hg h.nx.lt nx, h.ot.grown hg h.nt.lt nt,
    h.nx.grown hg (fun b e => by injection e with e; subst e; exact nx), h.nt.grown hg (fun b e => by injection e with e; subst e; exact nt), h.zk.grown hg (fun e => by injection e with e; omega), h.zt.grown hg (fun e => by injection e with e; omega), hr,
    h.bl.trans (below_of_grown hg (by omega) h.bl.size), h1, h2, h3, h4⟩
set_option maxRecDepth 100000 in
set_option maxHeartbeats 4000000 in
theorem drawKindHas_any (l : List UInt8) (A : Option Addr) (n c : Nat) (fp : List Nat) (w : World) (ho : Ow w (.s 1 l.length (l.flatMap byteC)) (.slice A n c) fp) (hf : Lt fp w.heap.size) (hsz : l.length ≤ 1048576) :
    Calls Tryz.prog 19 #[.slice A n c] w (KHOut w) := by
  have HO := hide ho
  clear ho
  go_enter Tryz.func19, Tryz.ntmps19
  go_upto_region 1 with fail
  generalize hw1 : World.alloc _ _ = w1
  have hb1 : Below w.heap.size w w1 := by rw [← hw1]; exact ((Below.refl _ _).alloc (Nat.le_refl _) _).alloc (by simp) _
  have HZK := hide (show Row w1 (w.heap.size) 38 [.int .i64 0, .slice none 0 0, .slice none 0 0] from by rw [← hw1]; exact (Row.new w _ _).alloc _)
  have HZT := hide (show Row w1 (w.heap.size + 1) 26 [.int .i64 0, .int .i64 0, .string .empty, .slice none 0 0, .slice none 0 0] from by
    rw [← hw1]
    have h := Row.new (w.alloc (.cells [.int .i64 0, .slice none 0 0, .slice none 0 0].toArray 38)) 26 [.int .i64 0, .int .i64 0, .string .empty, .slice none 0 0, .slice none 0 0]
    rw [World.size_alloc] at h
    exact h)
  have hs1 : w.heap.size + 1 < w1.heap.size := HZT.out.lt
  have HP := hide (open_any l A n c fp w1 (HO.out.below hb1 hf) (hf.up hb1) hsz)
  have HB1 := hide hb1
  clear hw1 hb1 HO
  go_wp2_with fail
  refine HP.out.mono ?_
  rintro e w2 ⟨L, rfl, hr, hb2⟩
  obtain ⟨g, hg⟩ : ∃ g, w1.heap.size = g := ⟨_, rfl⟩
  rw [hg] at hr hs1 ⊢
  have HB2 := hide (HB1.out.trans (hb2.mono HB1.out.size))
  have HZK2 := hide (HZK.out.below hb2 HZK.out.lt)
  have HZT2 := hide (HZT.out.below hb2 HZT.out.lt)
  have HR2 := hide hr
  have hlo : g < w2.heap.size := hr.lt
  clear hr hb2 HP HB1 HZK HZT hg
  have HP := hide (pick_any HR2.out (n := 2) (by omega) (by omega) (by omega))
  go_wp2_with fail
  refine HP.out.mono ?_
  rintro e w3 ⟨p, rfl, hp, h3, hg3⟩
  have HR3 := hide h3
  have HB3 := hide (HB2.out.trans (below_of_grown hg3 (by omega) HB2.out.size))
  have HZK3 := hide (HZK2.out.grown hg3 (fun e => by injection e with e; omega))
  have HZT3 := hide (HZT2.out.grown hg3 (fun e => by injection e with e; omega))
  have hs3 : w2.heap.size ≤ w3.heap.size := hg3.size
  clear h3 hg3 HP HR2 HB2 HZK2 HZT2
  have HC := hide (l5SomeOk_any (decide ((p : Int) = 0)) HR3.out (by omega))
  go_wp2_with fail
  refine HC.out.mono ?_
  rintro e w4 ⟨x, us, fq, k4, rfl, ho4, hn4, hx4, hk4, hr4, hg4, hok⟩
  have HR4 := hide hr4
  have HB4 := hide (HB3.out.trans (below_of_grown hg4 (by omega) HB3.out.size))
  have HZK4 := hide (HZK3.out.grown hg4 (fun e => by injection e with e; omega))
  have HZT4 := hide (HZT3.out.grown hg4 (fun e => by injection e with e; omega))
  have hs4 : w2.heap.size ≤ w4.heap.size := Nat.le_trans hs3 hg4.size
  have HN4 := hide (hn4.mono hs3)
  have HO4 := hide ho4
  have HOK := hide hok
  obtain ⟨B1, d1, B2, d2, f1, f2, rfl, k0, k1, k2, efq⟩ := ho4.oKind
  have htn := Kind.tn_ok hok
  clear ho4 hn4 hr4 hg4 hok k1 k2 efq HC HR3 HB3 HZK3 HZT3
  go_upto_region 3 with fail
  generalize hw5 : World.alloc _ _ = w5
  have hb5 : Below w4.heap.size w4 w5 := by rw [← hw5]; exact (Below.refl _ _).alloc (Nat.le_refl _) _
  have HX5 := hide (show Row w5 w4.heap.size 38 [.int .i64 x.sort, .slice B1 x.names.length d1, .slice B2 x.kids.length d2] from by rw [← hw5]; exact Row.new w4 _ _)
  have HO5 := hide (HO4.out.below hb5 HN4.out.lt)
  have HN5 := hide (HN4.out.below hb5 HN4.out.lt)
  have HR5 := hide (HR4.out.below hb5)
  have HB5 := hide (HB4.out.trans (hb5.mono HB4.out.size))
  have HZK5 := hide (HZK4.out.below hb5 HZK4.out.lt)
  have HZT5 := hide (HZT4.out.below hb5 HZT4.out.lt)
  have hs5 : w2.heap.size ≤ w5.heap.size := Nat.le_trans hs4 hb5.size
  clear hw5 hb5 HO4 HN4 HR4 HB4 HZK4 HZT4
  generalize w4.heap.size = bk at *
  have HD := hide (dTree_any x _ fq L k4 g 1 w5 HO5.out HN5.out.lt HOK.out.1 (HN5.out.out hlo) HR5.out (by omega) (by omega))
  have x0 := HX5.out.cell 0
  have x1 := HX5.out.cell 1
  have x2 := HX5.out.cell 2
  have xl := HX5.out.lt
  go_wp2_with fail
  refine HD.out.mono ?_
  rintro e w6 ⟨t, us6, fq6, k6, rfl, ho6, hn6, hb6, hk6, hr6, hg6⟩
  obtain ⟨E1, e1, E2, e2, g1, g2, rfl, t0_, t1_, t2_, t3_, t4_, efq⟩ := (id ho6).oTree
  have HX6 := hide (HX5.out.grown hg6 (fun e => by injection e with e; omega))
  have HO6 := hide (HO5.out.grown hg6 HN5.out.lt (HN5.out.out hlo))
  have HN6 := hide (HN5.out.grown hg6 (fun b e => by injection e with e; subst e; exact HN5.out.out hlo))
  have HOT6 := hide ho6
  have HNT6 := hide (hn6.mono hs5)
  have HR6 := hide hr6
  have HB6 := hide (HB5.out.trans (below_of_grown hg6 (by omega) HB5.out.size))
  have HZK6 := hide (HZK5.out.grown hg6 (fun e => by injection e with e; omega))
  have HZT6 := hide (HZT5.out.grown hg6 (fun e => by injection e with e; omega))
  have hs6 : w2.heap.size ≤ w6.heap.size := Nat.le_trans hs5 hg6.size
  have hbt : t.bulk ≤ 680400 := by omega
  clear ho6 hn6 hr6 hg6 HD HX5 HO5 HN5 HR5 HB5 HZK5 HZT5 x0 x1 x2 xl t1_ t2_ t3_ t4_ efq
  go_upto_region 4 with fail
  generalize hw7 : World.alloc _ _ = w7
  have hb7 : Below w6.heap.size w6 w7 := by rw [← hw7]; exact (Below.refl _ _).alloc (Nat.le_refl _) _
  have HS7 := hide (show KHS w w7 w2.heap.size bk w6.heap.size x [.int .i64 x.sort, .slice B1 x.names.length d1, .slice B2 x.kids.length d2] fq t [.int .i64 t.sort, .int .i64 t.num, .string t.text, .slice E1 t.names.length e1, .slice E2 t.kids.length e2] fq6 g L k6 from
    ⟨HX6.out.below hb7 HX6.out.lt, by rw [← hw7]; exact Row.new w6 _ _, HO6.out.below hb7 HN6.out.lt, HOT6.out.below hb7 HNT6.out.lt, HN6.out.below hb7 HN6.out.lt, HNT6.out.below hb7 HNT6.out.lt,
      HZK6.out.below hb7 HZK6.out.lt, HZT6.out.below hb7 HZT6.out.lt, HR6.out.below hb7, HB6.out.trans (hb7.mono HB6.out.size), hlo, hs1, hs4, hs6⟩)
  clear hw7 hb7 HX6 HO6 HN6 HOT6 HNT6 HR6 HB6 HZK6 HZT6
  generalize w6.heap.size = bt at *
  generalize w2.heap.size = lo at *
  have HP := hide (pick_any HS7.out.rd (n := 8) (by omega) (by omega) (by omega))
  go_wp2_with fail
  refine HP.out.mono ?_
  rintro e w8 ⟨v, rfl, hv, h8, hg8⟩
  have HS8 := hide (HS7.out.tick hg8 h8)
  clear h8 hg8 HP HS7
  have hkl := HS8.out.kl
  have htl := HS8.out.tl
  by_cases hv0 : v = 0
  · subst hv0
    have HSd := hide (show KHS w w8.drew lo bk bt x [.int .i64 x.sort, .slice B1 x.names.length d1, .slice B2 x.kids.length d2] fq t [.int .i64 t.sort, .int .i64 t.num, .string t.text, .slice E1 t.names.length e1, .slice E2 t.kids.length e2] fq6 g L (k6 + 1) from HS8.out.tick (only_drewN (grown_refl w8 (some g)) 1) (HS8.out.rd.drewN 1))
    have hS0 := (show w8.drew.cell? ⟨bk, 0, none⟩ = some (.int .i64 x.sort) ∧ w8.drew.cell? ⟨bk, 1, none⟩ = some (.slice B1 x.names.length d1) ∧ w8.drew.cell? ⟨bk, 2, none⟩ = some (.slice B2 x.kids.length d2) ∧ w8.drew.cell? ⟨bt, 0, none⟩ = some (.int .i64 t.sort) ∧ w8.drew.cell? ⟨bt, 1, none⟩ = some (.int .i64 t.num) ∧ w8.drew.cell? ⟨bt, 2, none⟩ = some (.string t.text) ∧ w8.drew.cell? ⟨bt, 3, none⟩ = some (.slice E1 t.names.length e1) ∧ w8.drew.cell? ⟨bt, 4, none⟩ = some (.slice E2 t.kids.length e2) ∧ bk < w8.drew.heap.size ∧ bt < w8.drew.heap.size from ⟨HSd.out.X.cell 0, HSd.out.X.cell 1, HSd.out.X.cell 2, HSd.out.Y.cell 0, HSd.out.Y.cell 1, HSd.out.Y.cell 2, HSd.out.Y.cell 3, HSd.out.Y.cell 4, HSd.out.X.lt, HSd.out.Y.lt⟩)
    go_wp2_with fail
    refine wp_region_held_drew (S := fun W => W.cell? ⟨bk, 0, none⟩ = some (.int .i64 x.sort) ∧ W.cell? ⟨bk, 1, none⟩ = some (.slice B1 x.names.length d1) ∧ W.cell? ⟨bk, 2, none⟩ = some (.slice B2 x.kids.length d2) ∧ W.cell? ⟨bt, 0, none⟩ = some (.int .i64 t.sort) ∧ W.cell? ⟨bt, 1, none⟩ = some (.int .i64 t.num) ∧ W.cell? ⟨bt, 2, none⟩ = some (.string t.text) ∧ W.cell? ⟨bt, 3, none⟩ = some (.slice E1 t.names.length e1) ∧ W.cell? ⟨bt, 4, none⟩ = some (.slice E2 t.kids.length e2) ∧ bk < W.heap.size ∧ bt < W.heap.size) (by kernel_rfl) hS0 (fun _ => ?_)
    generalize w8.drew = w9 at *
    refine wpAnyH_take (i := 1) (v := .pointer (some ⟨g, 0, none⟩)) rfl (by kernel_rfl) (by kernel_rfl) (by kernel_rfl) (fun _ _ _ h => h) (Or.inl ⟨by kernel_rfl, by (intro W hS; go_simp; first | done | with_reducible rfl | rfl)⟩) hS0 ?_
    (try simp only [Act.put, List.getElem_toArray, List.getElem_cons_zero, List.getElem_cons_succ, List.setIfInBounds_toArray, List.set_cons_zero, List.set_cons_succ])
    refine wpAnyH_take (i := 0) (v := .agg #[.int .i64 x.sort, .slice B1 x.names.length d1, .slice B2 x.kids.length d2]) rfl (by kernel_rfl) (by kernel_rfl) (by kernel_rfl) (fun _ _ _ h => h) (Or.inl ⟨by kernel_rfl, by (intro W hS; have y0 := hS.1; have y1 := hS.2.1; have y2 := hS.2.2.1; have yl := hS.2.2.2.2.2.2.2.2.1; go_simp; first | done | with_reducible rfl | rfl)⟩) hS0 ?_
    (try simp only [Act.put, List.getElem_toArray, List.getElem_cons_zero, List.getElem_cons_succ, List.setIfInBounds_toArray, List.set_cons_zero, List.set_cons_succ])
    refine wpAnyH_take (i := 2) (v := .agg #[.int .i64 t.sort, .int .i64 t.num, .string t.text, .slice E1 t.names.length e1, .slice E2 t.kids.length e2]) rfl (by kernel_rfl) (by kernel_rfl) (by kernel_rfl) (fun _ _ _ h => h) (Or.inl ⟨by kernel_rfl, by (intro W hS; have y0 := hS.2.2.2.1; have y1 := hS.2.2.2.2.1; have y2 := hS.2.2.2.2.2.1; have y3 := hS.2.2.2.2.2.2.1; have y4 := hS.2.2.2.2.2.2.2.1; have yl := hS.2.2.2.2.2.2.2.2.2; go_simp; first | done | with_reducible rfl | rfl)⟩) hS0 ?_
    (try simp only [Act.put, List.getElem_toArray, List.getElem_cons_zero, List.getElem_cons_succ, List.setIfInBounds_toArray, List.set_cons_zero, List.set_cons_succ])
    refine wpAnyH_ready (rs := [3]) (by kernel_rfl) (by simp) ?_
    refine AllReadyH.cons rfl (fun K hK => ?_) AllReadyH.nil
    go_simp
    go_at_call 55
    refine (spoilT_any t _ fq6 L (k6 + 1) g lo w9 HSd.out.ot HSd.out.nt HSd.out.glo (Nat.le_trans htl (Nat.le_of_lt HSd.out.Y.lt)) HSd.out.rd (by omega) (by omega)).mono ?_
    rintro e wa ⟨y, usa, fqa, ka, rfl, hoa, hna, hfa, hba, hka, hra, hga⟩
    have HSa := hide (HSd.out.tick hga hra)
    obtain ⟨D1, p1, D2, p2, g1, g2, rfl, t0_, t1_, t2_, t3_, t4_, efq⟩ := (id hoa).oTree
    have HOa := hide hoa
    have HNa := hide hna
    clear hoa hna t1_ t2_ t3_ t4_ efq
    have hSa := (show wa.cell? ⟨bk, 0, none⟩ = some (.int .i64 x.sort) ∧ wa.cell? ⟨bk, 1, none⟩ = some (.slice B1 x.names.length d1) ∧ wa.cell? ⟨bk, 2, none⟩ = some (.slice B2 x.kids.length d2) ∧ wa.cell? ⟨bt, 0, none⟩ = some (.int .i64 t.sort) ∧ wa.cell? ⟨bt, 1, none⟩ = some (.int .i64 t.num) ∧ wa.cell? ⟨bt, 2, none⟩ = some (.string t.text) ∧ wa.cell? ⟨bt, 3, none⟩ = some (.slice E1 t.names.length e1) ∧ wa.cell? ⟨bt, 4, none⟩ = some (.slice E2 t.kids.length e2) ∧ bk < wa.heap.size ∧ bt < wa.heap.size from ⟨HSa.out.X.cell 0, HSa.out.X.cell 1, HSa.out.X.cell 2, HSa.out.Y.cell 0, HSa.out.Y.cell 1, HSa.out.Y.cell 2, HSa.out.Y.cell 3, HSa.out.Y.cell 4, HSa.out.X.lt, HSa.out.Y.lt⟩)
    try go_simp
    refine hK.out _ _ hSa (fun hHeld => ?_)
    clear hK K hHeld hga hra HSd hS0
    have z0 := HSa.out.zk.cell 0
    have zf0 := HSa.out.zk.frozen 0
    have z1 := HSa.out.zk.cell 1
    have zf1 := HSa.out.zk.frozen 1
    have z2 := HSa.out.zk.cell 2
    have zf2 := HSa.out.zk.frozen 2
    have zl := HSa.out.zk.lt
    refine wpAnyH_ready (rs := [4]) (by kernel_rfl) (by simp) ?_
    refine AllReadyH.cons rfl (fun K hK => ?_) AllReadyH.nil
    go_simp
    have HZb := hide (show Row (putN wa w.heap.size 0 [.int .i64 x.sort, .slice B1 x.names.length d1, .slice B2 x.kids.length d2]) w.heap.size 38 [.int .i64 x.sort, .slice B1 x.names.length d1, .slice B2 x.kids.length d2] from HSa.out.zk.setAll [.int .i64 x.sort, .slice B1 x.names.length d1, .slice B2 x.kids.length d2] rfl)
    have hgb := setN_grown [.int .i64 x.sort, .slice B1 x.names.length d1, .slice B2 x.kids.length d2] 0 (grown_refl wa (some w.heap.size))
    have hbkz : bk ≠ w.heap.size := by have := HSa.out.gz; have := HSa.out.glo; omega
    have hbtz : bt ≠ w.heap.size := by have := HSa.out.gz; have := HSa.out.glo; omega
    have HXb := hide (HSa.out.X.grown hgb (fun e => by injection e with e; omega))
    have HYb := hide (HSa.out.Y.grown hgb (fun e => by injection e with e; omega))
    have HZTb := hide (HSa.out.zt.grown hgb (fun e => by injection e with e; omega))
    have hSb := (show (putN wa w.heap.size 0 [.int .i64 x.sort, .slice B1 x.names.length d1, .slice B2 x.kids.length d2]).cell? ⟨bk, 0, none⟩ = some (.int .i64 x.sort) ∧ (putN wa w.heap.size 0 [.int .i64 x.sort, .slice B1 x.names.length d1, .slice B2 x.kids.length d2]).cell? ⟨bk, 1, none⟩ = some (.slice B1 x.names.length d1) ∧ (putN wa w.heap.size 0 [.int .i64 x.sort, .slice B1 x.names.length d1, .slice B2 x.kids.length d2]).cell? ⟨bk, 2, none⟩ = some (.slice B2 x.kids.length d2) ∧ (putN wa w.heap.size 0 [.int .i64 x.sort, .slice B1 x.names.length d1, .slice B2 x.kids.length d2]).cell? ⟨bt, 0, none⟩ = some (.int .i64 t.sort) ∧ (putN wa w.heap.size 0 [.int .i64 x.sort, .slice B1 x.names.length d1, .slice B2 x.kids.length d2]).cell? ⟨bt, 1, none⟩ = some (.int .i64 t.num) ∧ (putN wa w.heap.size 0 [.int .i64 x.sort, .slice B1 x.names.length d1, .slice B2 x.kids.length d2]).cell? ⟨bt, 2, none⟩ = some (.string t.text) ∧ (putN wa w.heap.size 0 [.int .i64 x.sort, .slice B1 x.names.length d1, .slice B2 x.kids.length d2]).cell? ⟨bt, 3, none⟩ = some (.slice E1 t.names.length e1) ∧ (putN wa w.heap.size 0 [.int .i64 x.sort, .slice B1 x.names.length d1, .slice B2 x.kids.length d2]).cell? ⟨bt, 4, none⟩ = some (.slice E2 t.kids.length e2) ∧ bk < (putN wa w.heap.size 0 [.int .i64 x.sort, .slice B1 x.names.length d1, .slice B2 x.kids.length d2]).heap.size ∧ bt < (putN wa w.heap.size 0 [.int .i64 x.sort, .slice B1 x.names.length d1, .slice B2 x.kids.length d2]).heap.size from ⟨HXb.out.cell 0, HXb.out.cell 1, HXb.out.cell 2, HYb.out.cell 0, HYb.out.cell 1, HYb.out.cell 2, HYb.out.cell 3, HYb.out.cell 4, HXb.out.lt, HYb.out.lt⟩)
    refine hK.out _ (putN wa w.heap.size 0 [.int .i64 x.sort, .slice B1 x.names.length d1, .slice B2 x.kids.length d2]) hSb (fun hHeld => ?_)
    clear hK K hHeld hgb hSb
    clear z0 zf0 z1 zf1 z2 zf2 zl
    have HEND := hide (show KHOut w (.returned (.tuple #[.agg ([.int .i64 x.sort, .slice B1 x.names.length d1, .slice B2 x.kids.length d2]).toArray, .agg ([.int .i64 y.sort, .int .i64 y.num, .string y.text, .slice D1 y.names.length p1, .slice D2 y.kids.length p2]).toArray])) (putN (putN wa w.heap.size 0 [.int .i64 x.sort, .slice B1 x.names.length d1, .slice B2 x.kids.length d2]) (w.heap.size + 1) 0 [.int .i64 y.sort, .int .i64 y.num, .string y.text, .slice D1 y.names.length p1, .slice D2 y.kids.length p2]) from kh_fin HSa.out.ox HSa.out.nx.lt (fun q hq => by have := (HSa.out.nx.fr q hq).1; have := HSa.out.gz; have := HSa.out.glo; omega) HOa.out HNa.out.lt (fun q hq => by have := (HNa.out.fr q hq).1; have := HSa.out.gz; have := HSa.out.glo; omega) (by omega) (by omega) HSa.out.bl)
    generalize putN wa w.heap.size 0 [.int .i64 x.sort, .slice B1 x.names.length d1, .slice B2 x.kids.length d2] = wb at *
    have z0 := HZTb.out.cell 0
    have zf0 := HZTb.out.frozen 0
    have z1 := HZTb.out.cell 1
    have zf1 := HZTb.out.frozen 1
    have z2 := HZTb.out.cell 2
    have zf2 := HZTb.out.frozen 2
    have z3 := HZTb.out.cell 3
    have zf3 := HZTb.out.frozen 3
    have z4 := HZTb.out.cell 4
    have zf4 := HZTb.out.frozen 4
    have zl := HZTb.out.lt
    refine wpAnyH_ready (rs := [5]) (by kernel_rfl) (by simp) ?_
    refine AllReadyH.cons rfl (fun K hK => ?_) AllReadyH.nil
    go_simp
    have HZc := hide (show Row (putN wb (w.heap.size + 1) 0 [.int .i64 y.sort, .int .i64 y.num, .string y.text, .slice D1 y.names.length p1, .slice D2 y.kids.length p2]) (w.heap.size + 1) 26 [.int .i64 y.sort, .int .i64 y.num, .string y.text, .slice D1 y.names.length p1, .slice D2 y.kids.length p2] from HZTb.out.setAll [.int .i64 y.sort, .int .i64 y.num, .string y.text, .slice D1 y.names.length p1, .slice D2 y.kids.length p2] rfl)
    have hgc := setN_grown [.int .i64 y.sort, .int .i64 y.num, .string y.text, .slice D1 y.names.length p1, .slice D2 y.kids.length p2] 0 (grown_refl wb (some (w.heap.size + 1)))
    have hbkz1 : bk ≠ w.heap.size + 1 := by have := HSa.out.gz; have := HSa.out.glo; omega
    have hbtz1 : bt ≠ w.heap.size + 1 := by have := HSa.out.gz; have := HSa.out.glo; omega
    have HXc := hide (HXb.out.grown hgc (fun e => by injection e with e; omega))
    have HYc := hide (HYb.out.grown hgc (fun e => by injection e with e; omega))
    have HZKc := hide (HZb.out.grown hgc (fun e => by injection e with e; omega))
    have hSc := (show (putN wb (w.heap.size + 1) 0 [.int .i64 y.sort, .int .i64 y.num, .string y.text, .slice D1 y.names.length p1, .slice D2 y.kids.length p2]).cell? ⟨bk, 0, none⟩ = some (.int .i64 x.sort) ∧ (putN wb (w.heap.size + 1) 0 [.int .i64 y.sort, .int .i64 y.num, .string y.text, .slice D1 y.names.length p1, .slice D2 y.kids.length p2]).cell? ⟨bk, 1, none⟩ = some (.slice B1 x.names.length d1) ∧ (putN wb (w.heap.size + 1) 0 [.int .i64 y.sort, .int .i64 y.num, .string y.text, .slice D1 y.names.length p1, .slice D2 y.kids.length p2]).cell? ⟨bk, 2, none⟩ = some (.slice B2 x.kids.length d2) ∧ (putN wb (w.heap.size + 1) 0 [.int .i64 y.sort, .int .i64 y.num, .string y.text, .slice D1 y.names.length p1, .slice D2 y.kids.length p2]).cell? ⟨bt, 0, none⟩ = some (.int .i64 t.sort) ∧ (putN wb (w.heap.size + 1) 0 [.int .i64 y.sort, .int .i64 y.num, .string y.text, .slice D1 y.names.length p1, .slice D2 y.kids.length p2]).cell? ⟨bt, 1, none⟩ = some (.int .i64 t.num) ∧ (putN wb (w.heap.size + 1) 0 [.int .i64 y.sort, .int .i64 y.num, .string y.text, .slice D1 y.names.length p1, .slice D2 y.kids.length p2]).cell? ⟨bt, 2, none⟩ = some (.string t.text) ∧ (putN wb (w.heap.size + 1) 0 [.int .i64 y.sort, .int .i64 y.num, .string y.text, .slice D1 y.names.length p1, .slice D2 y.kids.length p2]).cell? ⟨bt, 3, none⟩ = some (.slice E1 t.names.length e1) ∧ (putN wb (w.heap.size + 1) 0 [.int .i64 y.sort, .int .i64 y.num, .string y.text, .slice D1 y.names.length p1, .slice D2 y.kids.length p2]).cell? ⟨bt, 4, none⟩ = some (.slice E2 t.kids.length e2) ∧ bk < (putN wb (w.heap.size + 1) 0 [.int .i64 y.sort, .int .i64 y.num, .string y.text, .slice D1 y.names.length p1, .slice D2 y.kids.length p2]).heap.size ∧ bt < (putN wb (w.heap.size + 1) 0 [.int .i64 y.sort, .int .i64 y.num, .string y.text, .slice D1 y.names.length p1, .slice D2 y.kids.length p2]).heap.size from ⟨HXc.out.cell 0, HXc.out.cell 1, HXc.out.cell 2, HYc.out.cell 0, HYc.out.cell 1, HYc.out.cell 2, HYc.out.cell 3, HYc.out.cell 4, HXc.out.lt, HYc.out.lt⟩)
    refine hK.out _ (putN wb (w.heap.size + 1) 0 [.int .i64 y.sort, .int .i64 y.num, .string y.text, .slice D1 y.names.length p1, .slice D2 y.kids.length p2]) hSc (fun hHeld => ?_)
    clear hK K hHeld hgc hSc
    clear z0 zf0 z1 zf1 z2 zf2 z3 zf3 z4 zf4 zl
    generalize putN wb (w.heap.size + 1) 0 [.int .i64 y.sort, .int .i64 y.num, .string y.text, .slice D1 y.names.length p1, .slice D2 y.kids.length p2] = wc at *
    refine wpAnyH_done (by kernel_rfl) ?_ _
    go_wp2
    refine bodyPost_ret (ret_row2 rfl _ _ w.heap.size 38 [.int .i64 x.sort, .slice B1 x.names.length d1, .slice B2 x.kids.length d2] HZKc.out (w.heap.size + 1) 26 [.int .i64 y.sort, .int .i64 y.num, .string y.text, .slice D1 y.names.length p1, .slice D2 y.kids.length p2] HZc.out _ _ rfl rfl Tryz.underlying38 Tryz.underlying26 rfl rfl (by kernel_rfl) (by kernel_rfl)) rfl ?_
    exact HEND.out
  have i0 : ¬ ((v : Int) = 0) := by omega
  by_cases hv1 : v = 1
  · subst hv1
    have HSd := hide (show KHS w w8.drew lo bk bt x [.int .i64 x.sort, .slice B1 x.names.length d1, .slice B2 x.kids.length d2] fq t [.int .i64 t.sort, .int .i64 t.num, .string t.text, .slice E1 t.names.length e1, .slice E2 t.kids.length e2] fq6 g L (k6 + 1) from HS8.out.tick (only_drewN (grown_refl w8 (some g)) 1) (HS8.out.rd.drewN 1))
    have hS0 := (show w8.drew.cell? ⟨bk, 0, none⟩ = some (.int .i64 x.sort) ∧ w8.drew.cell? ⟨bk, 1, none⟩ = some (.slice B1 x.names.length d1) ∧ w8.drew.cell? ⟨bk, 2, none⟩ = some (.slice B2 x.kids.length d2) ∧ w8.drew.cell? ⟨bt, 0, none⟩ = some (.int .i64 t.sort) ∧ w8.drew.cell? ⟨bt, 1, none⟩ = some (.int .i64 t.num) ∧ w8.drew.cell? ⟨bt, 2, none⟩ = some (.string t.text) ∧ w8.drew.cell? ⟨bt, 3, none⟩ = some (.slice E1 t.names.length e1) ∧ w8.drew.cell? ⟨bt, 4, none⟩ = some (.slice E2 t.kids.length e2) ∧ bk < w8.drew.heap.size ∧ bt < w8.drew.heap.size from ⟨HSd.out.X.cell 0, HSd.out.X.cell 1, HSd.out.X.cell 2, HSd.out.Y.cell 0, HSd.out.Y.cell 1, HSd.out.Y.cell 2, HSd.out.Y.cell 3, HSd.out.Y.cell 4, HSd.out.X.lt, HSd.out.Y.lt⟩)
    go_wp2_with fail
    refine wp_region_held_drew (S := fun W => W.cell? ⟨bk, 0, none⟩ = some (.int .i64 x.sort) ∧ W.cell? ⟨bk, 1, none⟩ = some (.slice B1 x.names.length d1) ∧ W.cell? ⟨bk, 2, none⟩ = some (.slice B2 x.kids.length d2) ∧ W.cell? ⟨bt, 0, none⟩ = some (.int .i64 t.sort) ∧ W.cell? ⟨bt, 1, none⟩ = some (.int .i64 t.num) ∧ W.cell? ⟨bt, 2, none⟩ = some (.string t.text) ∧ W.cell? ⟨bt, 3, none⟩ = some (.slice E1 t.names.length e1) ∧ W.cell? ⟨bt, 4, none⟩ = some (.slice E2 t.kids.length e2) ∧ bk < W.heap.size ∧ bt < W.heap.size) (by kernel_rfl) hS0 (fun _ => ?_)
    generalize w8.drew = w9 at *
    refine wpAnyH_take (i := 0) (v := .pointer (some ⟨g, 0, none⟩)) rfl (by kernel_rfl) (by kernel_rfl) (by kernel_rfl) (fun _ _ _ h => h) (Or.inl ⟨by kernel_rfl, by (intro W hS; go_simp; first | done | with_reducible rfl | rfl)⟩) hS0 ?_
    (try simp only [Act.put, List.getElem_toArray, List.getElem_cons_zero, List.getElem_cons_succ, List.setIfInBounds_toArray, List.set_cons_zero, List.set_cons_succ])
    refine wpAnyH_take (i := 1) (v := .agg #[.int .i64 x.sort, .slice B1 x.names.length d1, .slice B2 x.kids.length d2]) rfl (by kernel_rfl) (by kernel_rfl) (by kernel_rfl) (fun _ _ _ h => h) (Or.inl ⟨by kernel_rfl, by (intro W hS; have y0 := hS.1; have y1 := hS.2.1; have y2 := hS.2.2.1; have yl := hS.2.2.2.2.2.2.2.2.1; go_simp; first | done | with_reducible rfl | rfl)⟩) hS0 ?_
    (try simp only [Act.put, List.getElem_toArray, List.getElem_cons_zero, List.getElem_cons_succ, List.setIfInBounds_toArray, List.set_cons_zero, List.set_cons_succ])
    refine wpAnyH_take (i := 3) (v := .agg #[.int .i64 t.sort, .int .i64 t.num, .string t.text, .slice E1 t.names.length e1, .slice E2 t.kids.length e2]) rfl (by kernel_rfl) (by kernel_rfl) (by kernel_rfl) (fun _ _ _ h => h) (Or.inl ⟨by kernel_rfl, by (intro W hS; have y0 := hS.2.2.2.1; have y1 := hS.2.2.2.2.1; have y2 := hS.2.2.2.2.2.1; have y3 := hS.2.2.2.2.2.2.1; have y4 := hS.2.2.2.2.2.2.2.1; have yl := hS.2.2.2.2.2.2.2.2.2; go_simp; first | done | with_reducible rfl | rfl)⟩) hS0 ?_
    (try simp only [Act.put, List.getElem_toArray, List.getElem_cons_zero, List.getElem_cons_succ, List.setIfInBounds_toArray, List.set_cons_zero, List.set_cons_succ])
    refine wpAnyH_ready (rs := [2]) (by kernel_rfl) (by simp) ?_
    refine AllReadyH.cons rfl (fun K hK => ?_) AllReadyH.nil
    go_simp
    go_at_call 56
    refine (spoilK_any x _ fq L (k6 + 1) g lo w9 HSd.out.ox HSd.out.nx HSd.out.glo (Nat.le_trans htl (Nat.le_of_lt HSd.out.Y.lt)) HSd.out.rd (by omega) (by omega)).mono ?_
    rintro e wa ⟨y, usa, fqa, ka, rfl, hoa, hna, hfa, hba, hka, hra, hga⟩
    have HSa := hide (HSd.out.tick hga hra)
    obtain ⟨D1, p1, D2, p2, g1, g2, rfl, t0_, t1_, t2_, efq⟩ := (id hoa).oKind
    have HOa := hide hoa
    have HNa := hide hna.lt
    have HLa := hide (show ∀ q ∈ fqa, w.heap.size + 1 < q from fun q hq => by have := (hna.fr q hq).1; have := HSd.out.gz; have := HSd.out.glo; omega)
    clear hoa hna t1_ t2_ efq
    have hSa := (show wa.cell? ⟨bk, 0, none⟩ = some (.int .i64 x.sort) ∧ wa.cell? ⟨bk, 1, none⟩ = some (.slice B1 x.names.length d1) ∧ wa.cell? ⟨bk, 2, none⟩ = some (.slice B2 x.kids.length d2) ∧ wa.cell? ⟨bt, 0, none⟩ = some (.int .i64 t.sort) ∧ wa.cell? ⟨bt, 1, none⟩ = some (.int .i64 t.num) ∧ wa.cell? ⟨bt, 2, none⟩ = some (.string t.text) ∧ wa.cell? ⟨bt, 3, none⟩ = some (.slice E1 t.names.length e1) ∧ wa.cell? ⟨bt, 4, none⟩ = some (.slice E2 t.kids.length e2) ∧ bk < wa.heap.size ∧ bt < wa.heap.size from ⟨HSa.out.X.cell 0, HSa.out.X.cell 1, HSa.out.X.cell 2, HSa.out.Y.cell 0, HSa.out.Y.cell 1, HSa.out.Y.cell 2, HSa.out.Y.cell 3, HSa.out.Y.cell 4, HSa.out.X.lt, HSa.out.Y.lt⟩)
    try go_simp
    refine hK.out _ _ hSa (fun hHeld => ?_)
    clear hK K hHeld hga hra HSd hS0
    have z0 := HSa.out.zk.cell 0
    have zf0 := HSa.out.zk.frozen 0
    have z1 := HSa.out.zk.cell 1
    have zf1 := HSa.out.zk.frozen 1
    have z2 := HSa.out.zk.cell 2
    have zf2 := HSa.out.zk.frozen 2
    have zl := HSa.out.zk.lt
    refine wpAnyH_ready (rs := [4]) (by kernel_rfl) (by simp) ?_
    refine AllReadyH.cons rfl (fun K hK => ?_) AllReadyH.nil
    go_simp
    have HZb := hide (show Row (putN wa w.heap.size 0 [.int .i64 y.sort, .slice D1 y.names.length p1, .slice D2 y.kids.length p2]) w.heap.size 38 [.int .i64 y.sort, .slice D1 y.names.length p1, .slice D2 y.kids.length p2] from HSa.out.zk.setAll [.int .i64 y.sort, .slice D1 y.names.length p1, .slice D2 y.kids.length p2] rfl)
    have hgb := setN_grown [.int .i64 y.sort, .slice D1 y.names.length p1, .slice D2 y.kids.length p2] 0 (grown_refl wa (some w.heap.size))
    have hbkz : bk ≠ w.heap.size := by have := HSa.out.gz; have := HSa.out.glo; omega
    have hbtz : bt ≠ w.heap.size := by have := HSa.out.gz; have := HSa.out.glo; omega
    have HXb := hide (HSa.out.X.grown hgb (fun e => by injection e with e; omega))
    have HYb := hide (HSa.out.Y.grown hgb (fun e => by injection e with e; omega))
    have HZTb := hide (HSa.out.zt.grown hgb (fun e => by injection e with e; omega))
    have hSb := (show (putN wa w.heap.size 0 [.int .i64 y.sort, .slice D1 y.names.length p1, .slice D2 y.kids.length p2]).cell? ⟨bk, 0, none⟩ = some (.int .i64 x.sort) ∧ (putN wa w.heap.size 0 [.int .i64 y.sort, .slice D1 y.names.length p1, .slice D2 y.kids.length p2]).cell? ⟨bk, 1, none⟩ = some (.slice B1 x.names.length d1) ∧ (putN wa w.heap.size 0 [.int .i64 y.sort, .slice D1 y.names.length p1, .slice D2 y.kids.length p2]).cell? ⟨bk, 2, none⟩ = some (.slice B2 x.kids.length d2) ∧ (putN wa w.heap.size 0 [.int .i64 y.sort, .slice D1 y.names.length p1, .slice D2 y.kids.length p2]).cell? ⟨bt, 0, none⟩ = some (.int .i64 t.sort) ∧ (putN wa w.heap.size 0 [.int .i64 y.sort, .slice D1 y.names.length p1, .slice D2 y.kids.length p2]).cell? ⟨bt, 1, none⟩ = some (.int .i64 t.num) ∧ (putN wa w.heap.size 0 [.int .i64 y.sort, .slice D1 y.names.length p1, .slice D2 y.kids.length p2]).cell? ⟨bt, 2, none⟩ = some (.string t.text) ∧ (putN wa w.heap.size 0 [.int .i64 y.sort, .slice D1 y.names.length p1, .slice D2 y.kids.length p2]).cell? ⟨bt, 3, none⟩ = some (.slice E1 t.names.length e1) ∧ (putN wa w.heap.size 0 [.int .i64 y.sort, .slice D1 y.names.length p1, .slice D2 y.kids.length p2]).cell? ⟨bt, 4, none⟩ = some (.slice E2 t.kids.length e2) ∧ bk < (putN wa w.heap.size 0 [.int .i64 y.sort, .slice D1 y.names.length p1, .slice D2 y.kids.length p2]).heap.size ∧ bt < (putN wa w.heap.size 0 [.int .i64 y.sort, .slice D1 y.names.length p1, .slice D2 y.kids.length p2]).heap.size from ⟨HXb.out.cell 0, HXb.out.cell 1, HXb.out.cell 2, HYb.out.cell 0, HYb.out.cell 1, HYb.out.cell 2, HYb.out.cell 3, HYb.out.cell 4, HXb.out.lt, HYb.out.lt⟩)
    refine hK.out _ (putN wa w.heap.size 0 [.int .i64 y.sort, .slice D1 y.names.length p1, .slice D2 y.kids.length p2]) hSb (fun hHeld => ?_)
    clear hK K hHeld hgb hSb
    clear z0 zf0 z1 zf1 z2 zf2 zl
    have HEND := hide (show KHOut w (.returned (.tuple #[.agg ([.int .i64 y.sort, .slice D1 y.names.length p1, .slice D2 y.kids.length p2]).toArray, .agg ([.int .i64 t.sort, .int .i64 t.num, .string t.text, .slice E1 t.names.length e1, .slice E2 t.kids.length e2]).toArray])) (putN (putN wa w.heap.size 0 [.int .i64 y.sort, .slice D1 y.names.length p1, .slice D2 y.kids.length p2]) (w.heap.size + 1) 0 [.int .i64 t.sort, .int .i64 t.num, .string t.text, .slice E1 t.names.length e1, .slice E2 t.kids.length e2]) from kh_fin HOa.out (HNa.out) (HLa.out) HSa.out.ot HSa.out.nt.lt (fun q hq => by have := (HSa.out.nt.fr q hq).1; have := HSa.out.gz; have := HSa.out.glo; omega) (by omega) (by omega) HSa.out.bl)
    generalize putN wa w.heap.size 0 [.int .i64 y.sort, .slice D1 y.names.length p1, .slice D2 y.kids.length p2] = wb at *
    have z0 := HZTb.out.cell 0
    have zf0 := HZTb.out.frozen 0
    have z1 := HZTb.out.cell 1
    have zf1 := HZTb.out.frozen 1
    have z2 := HZTb.out.cell 2
    have zf2 := HZTb.out.frozen 2
    have z3 := HZTb.out.cell 3
    have zf3 := HZTb.out.frozen 3
    have z4 := HZTb.out.cell 4
    have zf4 := HZTb.out.frozen 4
    have zl := HZTb.out.lt
    refine wpAnyH_ready (rs := [5]) (by kernel_rfl) (by simp) ?_
    refine AllReadyH.cons rfl (fun K hK => ?_) AllReadyH.nil
    go_simp
    have HZc := hide (show Row (putN wb (w.heap.size + 1) 0 [.int .i64 t.sort, .int .i64 t.num, .string t.text, .slice E1 t.names.length e1, .slice E2 t.kids.length e2]) (w.heap.size + 1) 26 [.int .i64 t.sort, .int .i64 t.num, .string t.text, .slice E1 t.names.length e1, .slice E2 t.kids.length e2] from HZTb.out.setAll [.int .i64 t.sort, .int .i64 t.num, .string t.text, .slice E1 t.names.length e1, .slice E2 t.kids.length e2] rfl)
    have hgc := setN_grown [.int .i64 t.sort, .int .i64 t.num, .string t.text, .slice E1 t.names.length e1, .slice E2 t.kids.length e2] 0 (grown_refl wb (some (w.heap.size + 1)))
    have hbkz1 : bk ≠ w.heap.size + 1 := by have := HSa.out.gz; have := HSa.out.glo; omega
    have hbtz1 : bt ≠ w.heap.size + 1 := by have := HSa.out.gz; have := HSa.out.glo; omega
    have HXc := hide (HXb.out.grown hgc (fun e => by injection e with e; omega))
    have HYc := hide (HYb.out.grown hgc (fun e => by injection e with e; omega))
    have HZKc := hide (HZb.out.grown hgc (fun e => by injection e with e; omega))
    have hSc := (show (putN wb (w.heap.size + 1) 0 [.int .i64 t.sort, .int .i64 t.num, .string t.text, .slice E1 t.names.length e1, .slice E2 t.kids.length e2]).cell? ⟨bk, 0, none⟩ = some (.int .i64 x.sort) ∧ (putN wb (w.heap.size + 1) 0 [.int .i64 t.sort, .int .i64 t.num, .string t.text, .slice E1 t.names.length e1, .slice E2 t.kids.length e2]).cell? ⟨bk, 1, none⟩ = some (.slice B1 x.names.length d1) ∧ (putN wb (w.heap.size + 1) 0 [.int .i64 t.sort, .int .i64 t.num, .string t.text, .slice E1 t.names.length e1, .slice E2 t.kids.length e2]).cell? ⟨bk, 2, none⟩ = some (.slice B2 x.kids.length d2) ∧ (putN wb (w.heap.size + 1) 0 [.int .i64 t.sort, .int .i64 t.num, .string t.text, .slice E1 t.names.length e1, .slice E2 t.kids.length e2]).cell? ⟨bt, 0, none⟩ = some (.int .i64 t.sort) ∧ (putN wb (w.heap.size + 1) 0 [.int .i64 t.sort, .int .i64 t.num, .string t.text, .slice E1 t.names.length e1, .slice E2 t.kids.length e2]).cell? ⟨bt, 1, none⟩ = some (.int .i64 t.num) ∧ (putN wb (w.heap.size + 1) 0 [.int .i64 t.sort, .int .i64 t.num, .string t.text, .slice E1 t.names.length e1, .slice E2 t.kids.length e2]).cell? ⟨bt, 2, none⟩ = some (.string t.text) ∧ (putN wb (w.heap.size + 1) 0 [.int .i64 t.sort, .int .i64 t.num, .string t.text, .slice E1 t.names.length e1, .slice E2 t.kids.length e2]).cell? ⟨bt, 3, none⟩ = some (.slice E1 t.names.length e1) ∧ (putN wb (w.heap.size + 1) 0 [.int .i64 t.sort, .int .i64 t.num, .string t.text, .slice E1 t.names.length e1, .slice E2 t.kids.length e2]).cell? ⟨bt, 4, none⟩ = some (.slice E2 t.kids.length e2) ∧ bk < (putN wb (w.heap.size + 1) 0 [.int .i64 t.sort, .int .i64 t.num, .string t.text, .slice E1 t.names.length e1, .slice E2 t.kids.length e2]).heap.size ∧ bt < (putN wb (w.heap.size + 1) 0 [.int .i64 t.sort, .int .i64 t.num, .string t.text, .slice E1 t.names.length e1, .slice E2 t.kids.length e2]).heap.size from ⟨HXc.out.cell 0, HXc.out.cell 1, HXc.out.cell 2, HYc.out.cell 0, HYc.out.cell 1, HYc.out.cell 2, HYc.out.cell 3, HYc.out.cell 4, HXc.out.lt, HYc.out.lt⟩)
    refine hK.out _ (putN wb (w.heap.size + 1) 0 [.int .i64 t.sort, .int .i64 t.num, .string t.text, .slice E1 t.names.length e1, .slice E2 t.kids.length e2]) hSc (fun hHeld => ?_)
    clear hK K hHeld hgc hSc
    clear z0 zf0 z1 zf1 z2 zf2 z3 zf3 z4 zf4 zl
    generalize putN wb (w.heap.size + 1) 0 [.int .i64 t.sort, .int .i64 t.num, .string t.text, .slice E1 t.names.length e1, .slice E2 t.kids.length e2] = wc at *
    refine wpAnyH_done (by kernel_rfl) ?_ _
    go_wp2
    refine bodyPost_ret (ret_row2 rfl _ _ w.heap.size 38 [.int .i64 y.sort, .slice D1 y.names.length p1, .slice D2 y.kids.length p2] HZKc.out (w.heap.size + 1) 26 [.int .i64 t.sort, .int .i64 t.num, .string t.text, .slice E1 t.names.length e1, .slice E2 t.kids.length e2] HZc.out _ _ rfl rfl Tryz.underlying38 Tryz.underlying26 rfl rfl (by kernel_rfl) (by kernel_rfl)) rfl ?_
    exact HEND.out
  have i1 : ¬ ((v : Int) = 1) := by omega
  by_cases hv2 : v = 2
  · subst hv2
    have hpt : x.parts ≤ 40 := by have := HOK.out.2; omega
    have HSd := hide (show KHS w w8.drew lo bk bt x [.int .i64 x.sort, .slice B1 x.names.length d1, .slice B2 x.kids.length d2] fq t [.int .i64 t.sort, .int .i64 t.num, .string t.text, .slice E1 t.names.length e1, .slice E2 t.kids.length e2] fq6 g L (k6 + 1) from HS8.out.tick (only_drewN (grown_refl w8 (some g)) 1) (HS8.out.rd.drewN 1))
    have hS0 := (show w8.drew.cell? ⟨bk, 0, none⟩ = some (.int .i64 x.sort) ∧ w8.drew.cell? ⟨bk, 1, none⟩ = some (.slice B1 x.names.length d1) ∧ w8.drew.cell? ⟨bk, 2, none⟩ = some (.slice B2 x.kids.length d2) ∧ w8.drew.cell? ⟨bt, 0, none⟩ = some (.int .i64 t.sort) ∧ w8.drew.cell? ⟨bt, 1, none⟩ = some (.int .i64 t.num) ∧ w8.drew.cell? ⟨bt, 2, none⟩ = some (.string t.text) ∧ w8.drew.cell? ⟨bt, 3, none⟩ = some (.slice E1 t.names.length e1) ∧ w8.drew.cell? ⟨bt, 4, none⟩ = some (.slice E2 t.kids.length e2) ∧ bk < w8.drew.heap.size ∧ bt < w8.drew.heap.size from ⟨HSd.out.X.cell 0, HSd.out.X.cell 1, HSd.out.X.cell 2, HSd.out.Y.cell 0, HSd.out.Y.cell 1, HSd.out.Y.cell 2, HSd.out.Y.cell 3, HSd.out.Y.cell 4, HSd.out.X.lt, HSd.out.Y.lt⟩)
    go_wp2_with fail
    refine wp_region_held_drew (S := fun W => W.cell? ⟨bk, 0, none⟩ = some (.int .i64 x.sort) ∧ W.cell? ⟨bk, 1, none⟩ = some (.slice B1 x.names.length d1) ∧ W.cell? ⟨bk, 2, none⟩ = some (.slice B2 x.kids.length d2) ∧ W.cell? ⟨bt, 0, none⟩ = some (.int .i64 t.sort) ∧ W.cell? ⟨bt, 1, none⟩ = some (.int .i64 t.num) ∧ W.cell? ⟨bt, 2, none⟩ = some (.string t.text) ∧ W.cell? ⟨bt, 3, none⟩ = some (.slice E1 t.names.length e1) ∧ W.cell? ⟨bt, 4, none⟩ = some (.slice E2 t.kids.length e2) ∧ bk < W.heap.size ∧ bt < W.heap.size) (by kernel_rfl) hS0 (fun _ => ?_)
    generalize w8.drew = w9 at *
    refine wpAnyH_take (i := 0) (v := .pointer (some ⟨g, 0, none⟩)) rfl (by kernel_rfl) (by kernel_rfl) (by kernel_rfl) (fun _ _ _ h => h) (Or.inl ⟨by kernel_rfl, by (intro W hS; go_simp; first | done | with_reducible rfl | rfl)⟩) hS0 ?_
    (try simp only [Act.put, List.getElem_toArray, List.getElem_cons_zero, List.getElem_cons_succ, List.setIfInBounds_toArray, List.set_cons_zero, List.set_cons_succ])
    refine wpAnyH_take (i := 1) (v := .agg #[.int .i64 x.sort, .slice B1 x.names.length d1, .slice B2 x.kids.length d2]) rfl (by kernel_rfl) (by kernel_rfl) (by kernel_rfl) (fun _ _ _ h => h) (Or.inl ⟨by kernel_rfl, by (intro W hS; have y0 := hS.1; have y1 := hS.2.1; have y2 := hS.2.2.1; have yl := hS.2.2.2.2.2.2.2.2.1; go_simp; first | done | with_reducible rfl | rfl)⟩) hS0 ?_
    (try simp only [Act.put, List.getElem_toArray, List.getElem_cons_zero, List.getElem_cons_succ, List.setIfInBounds_toArray, List.set_cons_zero, List.set_cons_succ])
    refine wpAnyH_take (i := 3) (v := .agg #[.int .i64 t.sort, .int .i64 t.num, .string t.text, .slice E1 t.names.length e1, .slice E2 t.kids.length e2]) rfl (by kernel_rfl) (by kernel_rfl) (by kernel_rfl) (fun _ _ _ h => h) (Or.inl ⟨by kernel_rfl, by (intro W hS; have y0 := hS.2.2.2.1; have y1 := hS.2.2.2.2.1; have y2 := hS.2.2.2.2.2.1; have y3 := hS.2.2.2.2.2.2.1; have y4 := hS.2.2.2.2.2.2.2.1; have yl := hS.2.2.2.2.2.2.2.2.2; go_simp; first | done | with_reducible rfl | rfl)⟩) hS0 ?_
    (try simp only [Act.put, List.getElem_toArray, List.getElem_cons_zero, List.getElem_cons_succ, List.setIfInBounds_toArray, List.set_cons_zero, List.set_cons_succ])
    refine wpAnyH_ready (rs := [2]) (by kernel_rfl) (by simp) ?_
    refine AllReadyH.cons rfl (fun K hK => ?_) AllReadyH.nil
    go_simp
    go_at_call 57
    refine (dWider_any x _ fq L (k6 + 1) g 1 w9 HSd.out.ox HSd.out.nx.lt HOK.out.1 (HSd.out.nx.out HSd.out.glo) HSd.out.rd (by omega) (by omega)).mono ?_
    rintro e wa ⟨y, usa, fqa, ka, rfl, hoa, hna, hfa, hba, hka, hra, hga⟩
    have HSa := hide (HSd.out.tick hga hra)
    obtain ⟨D1, p1, D2, p2, g1, g2, rfl, t0_, t1_, t2_, efq⟩ := (id hoa).oKind
    have HOa := hide hoa
    have HNa := hide hna
    have HLa := hide (show ∀ q ∈ fqa, w.heap.size + 1 < q from fun q hq => by have := hfa q hq; have := HSd.out.zt.lt; have := HSd.out.Y.lt; have := HSd.out.gz; have := HSd.out.glo; omega)
    clear hoa hna hfa t1_ t2_ efq
    have hSa := (show wa.cell? ⟨bk, 0, none⟩ = some (.int .i64 x.sort) ∧ wa.cell? ⟨bk, 1, none⟩ = some (.slice B1 x.names.length d1) ∧ wa.cell? ⟨bk, 2, none⟩ = some (.slice B2 x.kids.length d2) ∧ wa.cell? ⟨bt, 0, none⟩ = some (.int .i64 t.sort) ∧ wa.cell? ⟨bt, 1, none⟩ = some (.int .i64 t.num) ∧ wa.cell? ⟨bt, 2, none⟩ = some (.string t.text) ∧ wa.cell? ⟨bt, 3, none⟩ = some (.slice E1 t.names.length e1) ∧ wa.cell? ⟨bt, 4, none⟩ = some (.slice E2 t.kids.length e2) ∧ bk < wa.heap.size ∧ bt < wa.heap.size from ⟨HSa.out.X.cell 0, HSa.out.X.cell 1, HSa.out.X.cell 2, HSa.out.Y.cell 0, HSa.out.Y.cell 1, HSa.out.Y.cell 2, HSa.out.Y.cell 3, HSa.out.Y.cell 4, HSa.out.X.lt, HSa.out.Y.lt⟩)
    try go_simp
    refine hK.out _ _ hSa (fun hHeld => ?_)
    clear hK K hHeld hga hra HSd hS0
    have z0 := HSa.out.zk.cell 0
    have zf0 := HSa.out.zk.frozen 0
    have z1 := HSa.out.zk.cell 1
    have zf1 := HSa.out.zk.frozen 1
    have z2 := HSa.out.zk.cell 2
    have zf2 := HSa.out.zk.frozen 2
    have zl := HSa.out.zk.lt
    refine wpAnyH_ready (rs := [4]) (by kernel_rfl) (by simp) ?_
    refine AllReadyH.cons rfl (fun K hK => ?_) AllReadyH.nil
    go_simp
    have HZb := hide (show Row (putN wa w.heap.size 0 [.int .i64 y.sort, .slice D1 y.names.length p1, .slice D2 y.kids.length p2]) w.heap.size 38 [.int .i64 y.sort, .slice D1 y.names.length p1, .slice D2 y.kids.length p2] from HSa.out.zk.setAll [.int .i64 y.sort, .slice D1 y.names.length p1, .slice D2 y.kids.length p2] rfl)
    have hgb := setN_grown [.int .i64 y.sort, .slice D1 y.names.length p1, .slice D2 y.kids.length p2] 0 (grown_refl wa (some w.heap.size))
    have hbkz : bk ≠ w.heap.size := by have := HSa.out.gz; have := HSa.out.glo; omega
    have hbtz : bt ≠ w.heap.size := by have := HSa.out.gz; have := HSa.out.glo; omega
    have HXb := hide (HSa.out.X.grown hgb (fun e => by injection e with e; omega))
    have HYb := hide (HSa.out.Y.grown hgb (fun e => by injection e with e; omega))
    have HZTb := hide (HSa.out.zt.grown hgb (fun e => by injection e with e; omega))
    have hSb := (show (putN wa w.heap.size 0 [.int .i64 y.sort, .slice D1 y.names.length p1, .slice D2 y.kids.length p2]).cell? ⟨bk, 0, none⟩ = some (.int .i64 x.sort) ∧ (putN wa w.heap.size 0 [.int .i64 y.sort, .slice D1 y.names.length p1, .slice D2 y.kids.length p2]).cell? ⟨bk, 1, none⟩ = some (.slice B1 x.names.length d1) ∧ (putN wa w.heap.size 0 [.int .i64 y.sort, .slice D1 y.names.length p1, .slice D2 y.kids.length p2]).cell? ⟨bk, 2, none⟩ = some (.slice B2 x.kids.length d2) ∧ (putN wa w.heap.size 0 [.int .i64 y.sort, .slice D1 y.names.length p1, .slice D2 y.kids.length p2]).cell? ⟨bt, 0, none⟩ = some (.int .i64 t.sort) ∧ (putN wa w.heap.size 0 [.int .i64 y.sort, .slice D1 y.names.length p1, .slice D2 y.kids.length p2]).cell? ⟨bt, 1, none⟩ = some (.int .i64 t.num) ∧ (putN wa w.heap.size 0 [.int .i64 y.sort, .slice D1 y.names.length p1, .slice D2 y.kids.length p2]).cell? ⟨bt, 2, none⟩ = some (.string t.text) ∧ (putN wa w.heap.size 0 [.int .i64 y.sort, .slice D1 y.names.length p1, .slice D2 y.kids.length p2]).cell? ⟨bt, 3, none⟩ = some (.slice E1 t.names.length e1) ∧ (putN wa w.heap.size 0 [.int .i64 y.sort, .slice D1 y.names.length p1, .slice D2 y.kids.length p2]).cell? ⟨bt, 4, none⟩ = some (.slice E2 t.kids.length e2) ∧ bk < (putN wa w.heap.size 0 [.int .i64 y.sort, .slice D1 y.names.length p1, .slice D2 y.kids.length p2]).heap.size ∧ bt < (putN wa w.heap.size 0 [.int .i64 y.sort, .slice D1 y.names.length p1, .slice D2 y.kids.length p2]).heap.size from ⟨HXb.out.cell 0, HXb.out.cell 1, HXb.out.cell 2, HYb.out.cell 0, HYb.out.cell 1, HYb.out.cell 2, HYb.out.cell 3, HYb.out.cell 4, HXb.out.lt, HYb.out.lt⟩)
    refine hK.out _ (putN wa w.heap.size 0 [.int .i64 y.sort, .slice D1 y.names.length p1, .slice D2 y.kids.length p2]) hSb (fun hHeld => ?_)
    clear hK K hHeld hgb hSb
    clear z0 zf0 z1 zf1 z2 zf2 zl
    have HEND := hide (show KHOut w (.returned (.tuple #[.agg ([.int .i64 y.sort, .slice D1 y.names.length p1, .slice D2 y.kids.length p2]).toArray, .agg ([.int .i64 t.sort, .int .i64 t.num, .string t.text, .slice E1 t.names.length e1, .slice E2 t.kids.length e2]).toArray])) (putN (putN wa w.heap.size 0 [.int .i64 y.sort, .slice D1 y.names.length p1, .slice D2 y.kids.length p2]) (w.heap.size + 1) 0 [.int .i64 t.sort, .int .i64 t.num, .string t.text, .slice E1 t.names.length e1, .slice E2 t.kids.length e2]) from kh_fin HOa.out (HNa.out) (HLa.out) HSa.out.ot HSa.out.nt.lt (fun q hq => by have := (HSa.out.nt.fr q hq).1; have := HSa.out.gz; have := HSa.out.glo; omega) (by omega) (by omega) HSa.out.bl)
    generalize putN wa w.heap.size 0 [.int .i64 y.sort, .slice D1 y.names.length p1, .slice D2 y.kids.length p2] = wb at *
    have z0 := HZTb.out.cell 0
    have zf0 := HZTb.out.frozen 0
    have z1 := HZTb.out.cell 1
    have zf1 := HZTb.out.frozen 1
    have z2 := HZTb.out.cell 2
    have zf2 := HZTb.out.frozen 2
    have z3 := HZTb.out.cell 3
    have zf3 := HZTb.out.frozen 3
    have z4 := HZTb.out.cell 4
    have zf4 := HZTb.out.frozen 4
    have zl := HZTb.out.lt
    refine wpAnyH_ready (rs := [5]) (by kernel_rfl) (by simp) ?_
    refine AllReadyH.cons rfl (fun K hK => ?_) AllReadyH.nil
    go_simp
    have HZc := hide (show Row (putN wb (w.heap.size + 1) 0 [.int .i64 t.sort, .int .i64 t.num, .string t.text, .slice E1 t.names.length e1, .slice E2 t.kids.length e2]) (w.heap.size + 1) 26 [.int .i64 t.sort, .int .i64 t.num, .string t.text, .slice E1 t.names.length e1, .slice E2 t.kids.length e2] from HZTb.out.setAll [.int .i64 t.sort, .int .i64 t.num, .string t.text, .slice E1 t.names.length e1, .slice E2 t.kids.length e2] rfl)
    have hgc := setN_grown [.int .i64 t.sort, .int .i64 t.num, .string t.text, .slice E1 t.names.length e1, .slice E2 t.kids.length e2] 0 (grown_refl wb (some (w.heap.size + 1)))
    have hbkz1 : bk ≠ w.heap.size + 1 := by have := HSa.out.gz; have := HSa.out.glo; omega
    have hbtz1 : bt ≠ w.heap.size + 1 := by have := HSa.out.gz; have := HSa.out.glo; omega
    have HXc := hide (HXb.out.grown hgc (fun e => by injection e with e; omega))
    have HYc := hide (HYb.out.grown hgc (fun e => by injection e with e; omega))
    have HZKc := hide (HZb.out.grown hgc (fun e => by injection e with e; omega))
    have hSc := (show (putN wb (w.heap.size + 1) 0 [.int .i64 t.sort, .int .i64 t.num, .string t.text, .slice E1 t.names.length e1, .slice E2 t.kids.length e2]).cell? ⟨bk, 0, none⟩ = some (.int .i64 x.sort) ∧ (putN wb (w.heap.size + 1) 0 [.int .i64 t.sort, .int .i64 t.num, .string t.text, .slice E1 t.names.length e1, .slice E2 t.kids.length e2]).cell? ⟨bk, 1, none⟩ = some (.slice B1 x.names.length d1) ∧ (putN wb (w.heap.size + 1) 0 [.int .i64 t.sort, .int .i64 t.num, .string t.text, .slice E1 t.names.length e1, .slice E2 t.kids.length e2]).cell? ⟨bk, 2, none⟩ = some (.slice B2 x.kids.length d2) ∧ (putN wb (w.heap.size + 1) 0 [.int .i64 t.sort, .int .i64 t.num, .string t.text, .slice E1 t.names.length e1, .slice E2 t.kids.length e2]).cell? ⟨bt, 0, none⟩ = some (.int .i64 t.sort) ∧ (putN wb (w.heap.size + 1) 0 [.int .i64 t.sort, .int .i64 t.num, .string t.text, .slice E1 t.names.length e1, .slice E2 t.kids.length e2]).cell? ⟨bt, 1, none⟩ = some (.int .i64 t.num) ∧ (putN wb (w.heap.size + 1) 0 [.int .i64 t.sort, .int .i64 t.num, .string t.text, .slice E1 t.names.length e1, .slice E2 t.kids.length e2]).cell? ⟨bt, 2, none⟩ = some (.string t.text) ∧ (putN wb (w.heap.size + 1) 0 [.int .i64 t.sort, .int .i64 t.num, .string t.text, .slice E1 t.names.length e1, .slice E2 t.kids.length e2]).cell? ⟨bt, 3, none⟩ = some (.slice E1 t.names.length e1) ∧ (putN wb (w.heap.size + 1) 0 [.int .i64 t.sort, .int .i64 t.num, .string t.text, .slice E1 t.names.length e1, .slice E2 t.kids.length e2]).cell? ⟨bt, 4, none⟩ = some (.slice E2 t.kids.length e2) ∧ bk < (putN wb (w.heap.size + 1) 0 [.int .i64 t.sort, .int .i64 t.num, .string t.text, .slice E1 t.names.length e1, .slice E2 t.kids.length e2]).heap.size ∧ bt < (putN wb (w.heap.size + 1) 0 [.int .i64 t.sort, .int .i64 t.num, .string t.text, .slice E1 t.names.length e1, .slice E2 t.kids.length e2]).heap.size from ⟨HXc.out.cell 0, HXc.out.cell 1, HXc.out.cell 2, HYc.out.cell 0, HYc.out.cell 1, HYc.out.cell 2, HYc.out.cell 3, HYc.out.cell 4, HXc.out.lt, HYc.out.lt⟩)
    refine hK.out _ (putN wb (w.heap.size + 1) 0 [.int .i64 t.sort, .int .i64 t.num, .string t.text, .slice E1 t.names.length e1, .slice E2 t.kids.length e2]) hSc (fun hHeld => ?_)
    clear hK K hHeld hgc hSc
    clear z0 zf0 z1 zf1 z2 zf2 z3 zf3 z4 zf4 zl
    generalize putN wb (w.heap.size + 1) 0 [.int .i64 t.sort, .int .i64 t.num, .string t.text, .slice E1 t.names.length e1, .slice E2 t.kids.length e2] = wc at *
    refine wpAnyH_done (by kernel_rfl) ?_ _
    go_wp2
    refine bodyPost_ret (ret_row2 rfl _ _ w.heap.size 38 [.int .i64 y.sort, .slice D1 y.names.length p1, .slice D2 y.kids.length p2] HZKc.out (w.heap.size + 1) 26 [.int .i64 t.sort, .int .i64 t.num, .string t.text, .slice E1 t.names.length e1, .slice E2 t.kids.length e2] HZc.out _ _ rfl rfl Tryz.underlying38 Tryz.underlying26 rfl rfl (by kernel_rfl) (by kernel_rfl)) rfl ?_
    exact HEND.out
  have i2 : ¬ ((v : Int) = 2) := by omega
  clear hv0 hv1 hv2
  have HSd := hide (show KHS w w8.drew lo bk bt x [.int .i64 x.sort, .slice B1 x.names.length d1, .slice B2 x.kids.length d2] fq t [.int .i64 t.sort, .int .i64 t.num, .string t.text, .slice E1 t.names.length e1, .slice E2 t.kids.length e2] fq6 g L (k6 + 1) from HS8.out.tick (only_drewN (grown_refl w8 (some g)) 1) (HS8.out.rd.drewN 1))
  have hS0 := (show w8.drew.cell? ⟨bk, 0, none⟩ = some (.int .i64 x.sort) ∧ w8.drew.cell? ⟨bk, 1, none⟩ = some (.slice B1 x.names.length d1) ∧ w8.drew.cell? ⟨bk, 2, none⟩ = some (.slice B2 x.kids.length d2) ∧ w8.drew.cell? ⟨bt, 0, none⟩ = some (.int .i64 t.sort) ∧ w8.drew.cell? ⟨bt, 1, none⟩ = some (.int .i64 t.num) ∧ w8.drew.cell? ⟨bt, 2, none⟩ = some (.string t.text) ∧ w8.drew.cell? ⟨bt, 3, none⟩ = some (.slice E1 t.names.length e1) ∧ w8.drew.cell? ⟨bt, 4, none⟩ = some (.slice E2 t.kids.length e2) ∧ bk < w8.drew.heap.size ∧ bt < w8.drew.heap.size from ⟨HSd.out.X.cell 0, HSd.out.X.cell 1, HSd.out.X.cell 2, HSd.out.Y.cell 0, HSd.out.Y.cell 1, HSd.out.Y.cell 2, HSd.out.Y.cell 3, HSd.out.Y.cell 4, HSd.out.X.lt, HSd.out.Y.lt⟩)
  go_wp2_with fail
  refine wp_region_held_drew (S := fun W => W.cell? ⟨bk, 0, none⟩ = some (.int .i64 x.sort) ∧ W.cell? ⟨bk, 1, none⟩ = some (.slice B1 x.names.length d1) ∧ W.cell? ⟨bk, 2, none⟩ = some (.slice B2 x.kids.length d2) ∧ W.cell? ⟨bt, 0, none⟩ = some (.int .i64 t.sort) ∧ W.cell? ⟨bt, 1, none⟩ = some (.int .i64 t.num) ∧ W.cell? ⟨bt, 2, none⟩ = some (.string t.text) ∧ W.cell? ⟨bt, 3, none⟩ = some (.slice E1 t.names.length e1) ∧ W.cell? ⟨bt, 4, none⟩ = some (.slice E2 t.kids.length e2) ∧ bk < W.heap.size ∧ bt < W.heap.size) (by kernel_rfl) hS0 (fun _ => ?_)
  generalize w8.drew = w9 at *
  refine wpAnyH_take (i := 0) (v := .agg #[.int .i64 x.sort, .slice B1 x.names.length d1, .slice B2 x.kids.length d2]) rfl (by kernel_rfl) (by kernel_rfl) (by kernel_rfl) (fun _ _ _ h => h) (Or.inl ⟨by kernel_rfl, by (intro W hS; have y0 := hS.1; have y1 := hS.2.1; have y2 := hS.2.2.1; have yl := hS.2.2.2.2.2.2.2.2.1; go_simp; first | done | with_reducible rfl | rfl)⟩) hS0 ?_
  (try simp only [Act.put, List.getElem_toArray, List.getElem_cons_zero, List.getElem_cons_succ, List.setIfInBounds_toArray, List.set_cons_zero, List.set_cons_succ])
  refine wpAnyH_take (i := 1) (v := .agg #[.int .i64 t.sort, .int .i64 t.num, .string t.text, .slice E1 t.names.length e1, .slice E2 t.kids.length e2]) rfl (by kernel_rfl) (by kernel_rfl) (by kernel_rfl) (fun _ _ _ h => h) (Or.inl ⟨by kernel_rfl, by (intro W hS; have y0 := hS.2.2.2.1; have y1 := hS.2.2.2.2.1; have y2 := hS.2.2.2.2.2.1; have y3 := hS.2.2.2.2.2.2.1; have y4 := hS.2.2.2.2.2.2.2.1; have yl := hS.2.2.2.2.2.2.2.2.2; go_simp; first | done | with_reducible rfl | rfl)⟩) hS0 ?_
  (try simp only [Act.put, List.getElem_toArray, List.getElem_cons_zero, List.getElem_cons_succ, List.setIfInBounds_toArray, List.set_cons_zero, List.set_cons_succ])
  have z0 := HSd.out.zk.cell 0
  have zf0 := HSd.out.zk.frozen 0
  have z1 := HSd.out.zk.cell 1
  have zf1 := HSd.out.zk.frozen 1
  have z2 := HSd.out.zk.cell 2
  have zf2 := HSd.out.zk.frozen 2
  have zl := HSd.out.zk.lt
  refine wpAnyH_ready (rs := [2]) (by kernel_rfl) (by simp) ?_
  refine AllReadyH.cons rfl (fun K hK => ?_) AllReadyH.nil
  go_simp
  have HZb := hide (show Row (putN w9 w.heap.size 0 [.int .i64 x.sort, .slice B1 x.names.length d1, .slice B2 x.kids.length d2]) w.heap.size 38 [.int .i64 x.sort, .slice B1 x.names.length d1, .slice B2 x.kids.length d2] from HSd.out.zk.setAll [.int .i64 x.sort, .slice B1 x.names.length d1, .slice B2 x.kids.length d2] rfl)
  have hgb := setN_grown [.int .i64 x.sort, .slice B1 x.names.length d1, .slice B2 x.kids.length d2] 0 (grown_refl w9 (some w.heap.size))
  have hbkz : bk ≠ w.heap.size := by have := HSd.out.gz; have := HSd.out.glo; omega
  have hbtz : bt ≠ w.heap.size := by have := HSd.out.gz; have := HSd.out.glo; omega
  have HXb := hide (HSd.out.X.grown hgb (fun e => by injection e with e; omega))
  have HYb := hide (HSd.out.Y.grown hgb (fun e => by injection e with e; omega))
  have HZTb := hide (HSd.out.zt.grown hgb (fun e => by injection e with e; omega))
  have hSb := (show (putN w9 w.heap.size 0 [.int .i64 x.sort, .slice B1 x.names.length d1, .slice B2 x.kids.length d2]).cell? ⟨bk, 0, none⟩ = some (.int .i64 x.sort) ∧ (putN w9 w.heap.size 0 [.int .i64 x.sort, .slice B1 x.names.length d1, .slice B2 x.kids.length d2]).cell? ⟨bk, 1, none⟩ = some (.slice B1 x.names.length d1) ∧ (putN w9 w.heap.size 0 [.int .i64 x.sort, .slice B1 x.names.length d1, .slice B2 x.kids.length d2]).cell? ⟨bk, 2, none⟩ = some (.slice B2 x.kids.length d2) ∧ (putN w9 w.heap.size 0 [.int .i64 x.sort, .slice B1 x.names.length d1, .slice B2 x.kids.length d2]).cell? ⟨bt, 0, none⟩ = some (.int .i64 t.sort) ∧ (putN w9 w.heap.size 0 [.int .i64 x.sort, .slice B1 x.names.length d1, .slice B2 x.kids.length d2]).cell? ⟨bt, 1, none⟩ = some (.int .i64 t.num) ∧ (putN w9 w.heap.size 0 [.int .i64 x.sort, .slice B1 x.names.length d1, .slice B2 x.kids.length d2]).cell? ⟨bt, 2, none⟩ = some (.string t.text) ∧ (putN w9 w.heap.size 0 [.int .i64 x.sort, .slice B1 x.names.length d1, .slice B2 x.kids.length d2]).cell? ⟨bt, 3, none⟩ = some (.slice E1 t.names.length e1) ∧ (putN w9 w.heap.size 0 [.int .i64 x.sort, .slice B1 x.names.length d1, .slice B2 x.kids.length d2]).cell? ⟨bt, 4, none⟩ = some (.slice E2 t.kids.length e2) ∧ bk < (putN w9 w.heap.size 0 [.int .i64 x.sort, .slice B1 x.names.length d1, .slice B2 x.kids.length d2]).heap.size ∧ bt < (putN w9 w.heap.size 0 [.int .i64 x.sort, .slice B1 x.names.length d1, .slice B2 x.kids.length d2]).heap.size from ⟨HXb.out.cell 0, HXb.out.cell 1, HXb.out.cell 2, HYb.out.cell 0, HYb.out.cell 1, HYb.out.cell 2, HYb.out.cell 3, HYb.out.cell 4, HXb.out.lt, HYb.out.lt⟩)
  refine hK.out _ (putN w9 w.heap.size 0 [.int .i64 x.sort, .slice B1 x.names.length d1, .slice B2 x.kids.length d2]) hSb (fun hHeld => ?_)
  clear hK K hHeld hgb hSb
  clear z0 zf0 z1 zf1 z2 zf2 zl
  have HEND := hide (show KHOut w (.returned (.tuple #[.agg ([.int .i64 x.sort, .slice B1 x.names.length d1, .slice B2 x.kids.length d2]).toArray, .agg ([.int .i64 t.sort, .int .i64 t.num, .string t.text, .slice E1 t.names.length e1, .slice E2 t.kids.length e2]).toArray])) (putN (putN w9 w.heap.size 0 [.int .i64 x.sort, .slice B1 x.names.length d1, .slice B2 x.kids.length d2]) (w.heap.size + 1) 0 [.int .i64 t.sort, .int .i64 t.num, .string t.text, .slice E1 t.names.length e1, .slice E2 t.kids.length e2]) from kh_fin HSd.out.ox HSd.out.nx.lt (fun q hq => by have := (HSd.out.nx.fr q hq).1; have := HSd.out.gz; have := HSd.out.glo; omega) HSd.out.ot HSd.out.nt.lt (fun q hq => by have := (HSd.out.nt.fr q hq).1; have := HSd.out.gz; have := HSd.out.glo; omega) (by omega) (by omega) HSd.out.bl)
  generalize putN w9 w.heap.size 0 [.int .i64 x.sort, .slice B1 x.names.length d1, .slice B2 x.kids.length d2] = wb at *
  have z0 := HZTb.out.cell 0
  have zf0 := HZTb.out.frozen 0
  have z1 := HZTb.out.cell 1
  have zf1 := HZTb.out.frozen 1
  have z2 := HZTb.out.cell 2
  have zf2 := HZTb.out.frozen 2
  have z3 := HZTb.out.cell 3
  have zf3 := HZTb.out.frozen 3
  have z4 := HZTb.out.cell 4
  have zf4 := HZTb.out.frozen 4
  have zl := HZTb.out.lt
  refine wpAnyH_ready (rs := [3]) (by kernel_rfl) (by simp) ?_
  refine AllReadyH.cons rfl (fun K hK => ?_) AllReadyH.nil
  go_simp
  have HZc := hide (show Row (putN wb (w.heap.size + 1) 0 [.int .i64 t.sort, .int .i64 t.num, .string t.text, .slice E1 t.names.length e1, .slice E2 t.kids.length e2]) (w.heap.size + 1) 26 [.int .i64 t.sort, .int .i64 t.num, .string t.text, .slice E1 t.names.length e1, .slice E2 t.kids.length e2] from HZTb.out.setAll [.int .i64 t.sort, .int .i64 t.num, .string t.text, .slice E1 t.names.length e1, .slice E2 t.kids.length e2] rfl)
  have hgc := setN_grown [.int .i64 t.sort, .int .i64 t.num, .string t.text, .slice E1 t.names.length e1, .slice E2 t.kids.length e2] 0 (grown_refl wb (some (w.heap.size + 1)))
  have hbkz1 : bk ≠ w.heap.size + 1 := by have := HSd.out.gz; have := HSd.out.glo; omega
  have hbtz1 : bt ≠ w.heap.size + 1 := by have := HSd.out.gz; have := HSd.out.glo; omega
  have HXc := hide (HXb.out.grown hgc (fun e => by injection e with e; omega))
  have HYc := hide (HYb.out.grown hgc (fun e => by injection e with e; omega))
  have HZKc := hide (HZb.out.grown hgc (fun e => by injection e with e; omega))
  have hSc := (show (putN wb (w.heap.size + 1) 0 [.int .i64 t.sort, .int .i64 t.num, .string t.text, .slice E1 t.names.length e1, .slice E2 t.kids.length e2]).cell? ⟨bk, 0, none⟩ = some (.int .i64 x.sort) ∧ (putN wb (w.heap.size + 1) 0 [.int .i64 t.sort, .int .i64 t.num, .string t.text, .slice E1 t.names.length e1, .slice E2 t.kids.length e2]).cell? ⟨bk, 1, none⟩ = some (.slice B1 x.names.length d1) ∧ (putN wb (w.heap.size + 1) 0 [.int .i64 t.sort, .int .i64 t.num, .string t.text, .slice E1 t.names.length e1, .slice E2 t.kids.length e2]).cell? ⟨bk, 2, none⟩ = some (.slice B2 x.kids.length d2) ∧ (putN wb (w.heap.size + 1) 0 [.int .i64 t.sort, .int .i64 t.num, .string t.text, .slice E1 t.names.length e1, .slice E2 t.kids.length e2]).cell? ⟨bt, 0, none⟩ = some (.int .i64 t.sort) ∧ (putN wb (w.heap.size + 1) 0 [.int .i64 t.sort, .int .i64 t.num, .string t.text, .slice E1 t.names.length e1, .slice E2 t.kids.length e2]).cell? ⟨bt, 1, none⟩ = some (.int .i64 t.num) ∧ (putN wb (w.heap.size + 1) 0 [.int .i64 t.sort, .int .i64 t.num, .string t.text, .slice E1 t.names.length e1, .slice E2 t.kids.length e2]).cell? ⟨bt, 2, none⟩ = some (.string t.text) ∧ (putN wb (w.heap.size + 1) 0 [.int .i64 t.sort, .int .i64 t.num, .string t.text, .slice E1 t.names.length e1, .slice E2 t.kids.length e2]).cell? ⟨bt, 3, none⟩ = some (.slice E1 t.names.length e1) ∧ (putN wb (w.heap.size + 1) 0 [.int .i64 t.sort, .int .i64 t.num, .string t.text, .slice E1 t.names.length e1, .slice E2 t.kids.length e2]).cell? ⟨bt, 4, none⟩ = some (.slice E2 t.kids.length e2) ∧ bk < (putN wb (w.heap.size + 1) 0 [.int .i64 t.sort, .int .i64 t.num, .string t.text, .slice E1 t.names.length e1, .slice E2 t.kids.length e2]).heap.size ∧ bt < (putN wb (w.heap.size + 1) 0 [.int .i64 t.sort, .int .i64 t.num, .string t.text, .slice E1 t.names.length e1, .slice E2 t.kids.length e2]).heap.size from ⟨HXc.out.cell 0, HXc.out.cell 1, HXc.out.cell 2, HYc.out.cell 0, HYc.out.cell 1, HYc.out.cell 2, HYc.out.cell 3, HYc.out.cell 4, HXc.out.lt, HYc.out.lt⟩)
  refine hK.out _ (putN wb (w.heap.size + 1) 0 [.int .i64 t.sort, .int .i64 t.num, .string t.text, .slice E1 t.names.length e1, .slice E2 t.kids.length e2]) hSc (fun hHeld => ?_)
  clear hK K hHeld hgc hSc
  clear z0 zf0 z1 zf1 z2 zf2 z3 zf3 z4 zf4 zl
  generalize putN wb (w.heap.size + 1) 0 [.int .i64 t.sort, .int .i64 t.num, .string t.text, .slice E1 t.names.length e1, .slice E2 t.kids.length e2] = wc at *
  refine wpAnyH_done (by kernel_rfl) ?_ _
  go_wp2
  refine bodyPost_ret (ret_row2 rfl _ _ w.heap.size 38 [.int .i64 x.sort, .slice B1 x.names.length d1, .slice B2 x.kids.length d2] HZKc.out (w.heap.size + 1) 26 [.int .i64 t.sort, .int .i64 t.num, .string t.text, .slice E1 t.names.length e1, .slice E2 t.kids.length e2] HZc.out _ _ rfl rfl Tryz.underlying38 Tryz.underlying26 rfl rfl (by kernel_rfl) (by kernel_rfl)) rfl ?_
  exact HEND.out
end Go.Proofs.YtnaecdoeldoipaaGreatDoor
