/-
  Reading trees from texts: the state of a list or form as the program reads it. Reading trees from texts: the program's kids: a list's or form's parts, plain laws.
-/
import Derived.Deep.RegionHeld3
import Derived.Deep.RegionLaw
import Derived.Deep.CutRange
import Derived.Deep.DeepCutAuto
import Derived.Test.YtnaecdoeldoipaaGreatDoorKTrT
import Derived.Test.YtnaecdoeldoipaaGreatDoorKRkJ
import Derived.Test.YtnaecdoeldoipaaGreatDoorKReadNum
set_option linter.unusedVariables false
set_option linter.unusedSimpArgs false
namespace Go.Proofs.YtnaecdoeldoipaaGreatDoor
open Go.ChangeShapes Go.WideShapes Go.ChangeAt Go.RowKit

/-- what stood ahead of a part's tree -/
def NxJ (s : Int) (l : List UInt8) (nx : List ByteArray) (l4 : List UInt8) (b4 : Bool) : Prop := (s = 5 ∧ ∃ x, nx = [x] ∧ x.size ≤ 10000 ∧ NamedJ l false x l4 b4) ∨ (s = 4 ∧ nx = [] ∧ l4 = l ∧ b4 = false)
/-- a list or form as it grows: the reader, what the closure captured, the result's block -/
structure KT (S : Int) (w wr : World) (g lv : Nat) (v1 : Value) (ns : List ByteArray) (us1 : List Value) (v2 : Value) (ks : List Tree) (us2 : List Value) (fi2 : List Nat) (l : List UInt8) (fail : Bool) : Prop where
  two : TreeAtR wr (w.heap.size + 3) S v1 ns us1 v2 ks us2 fi2
  rd : RdJ wr g l fail
  rb : Row wr w.heap.size 65 [.pointer (some ⟨g, 0, none⟩)]
  lb : Row wr (w.heap.size + 1) 3 [.int .i64 (lv : Int)]
  zb : Row wr (w.heap.size + 2) 26 [.int .i64 0, .int .i64 0, .string .empty, .slice none 0 0, .slice none 0 0]
  gr : w.grownBy wr (some g)
section
variable {S : Int} {w wr w' : World} {g lv : Nat} {v1 v1' : Value} {ns ns' : List ByteArray} {us1 us1' : List Value} {v2 v2' : Value} {ks ks' : List Tree} {us2 us2' : List Value} {fi2 fi2' : List Nat} {l l' : List UInt8} {fail fail' : Bool}
/-- the reader went on, nothing else turned -/
theorem KT.read (h : KT S w wr g lv v1 ns us1 v2 ks us2 fi2 l fail) (hgw : g < w.heap.size) (hg : wr.grownBy w' (some g)) (hr : RdJ w' g l' fail') : KT S w w' g lv v1 ns us1 v2 ks us2 fi2 l' fail' :=
  ⟨h.two.farR hg (by omega), hr, h.rb.grown hg (fun e => by injection e with e; omega), h.lb.grown hg (fun e => by injection e with e; omega), h.zb.grown hg (fun e => by injection e with e; omega), only_trans h.gr hg⟩
/-- nothing below the box turned -/
theorem KT.put (h : KT S w wr g lv v1 ns us1 v2 ks us2 fi2 l fail) (hgw : g < w.heap.size) (hb : Below (w.heap.size + 3) wr w') (ht : TreeAtR w' (w.heap.size + 3) S v1' ns' us1' v2' ks' us2' fi2') : KT S w w' g lv v1' ns' us1' v2' ks' us2' fi2' l fail :=
  ⟨ht, h.rd.low hb (by omega), h.rb.below hb (by omega), h.lb.below hb (by omega), h.zb.below hb (by omega), only_lowR h.gr hb (by omega)⟩
theorem KT.drewN (h : KT S w wr g lv v1 ns us1 v2 ks us2 fi2 l fail) (n : Nat) : KT S w (wr.drewN n) g lv v1 ns us1 v2 ks us2 fi2 l fail :=
  ⟨h.two.drewN n, h.rd.drewN n, h.rb.drewN n, h.lb.drewN n, h.zb.drewN n, only_drewN h.gr n⟩
theorem KT.alloc (h : KT S w wr g lv v1 ns us1 v2 ks us2 fi2 l fail) (hgw : g < w.heap.size) (o : Obj) : KT S w (wr.alloc o) g lv v1 ns us1 v2 ks us2 fi2 l fail :=
  h.put hgw ((Below.refl _ _).alloc (Nat.le_of_lt h.two.box.lt) o) (h.two.alloc o)
end
theorem list_set5 (us rest : List Value) (a b c d e x y z p q : Value) (n : Nat) (hn : n = us.length) : (((((us ++ (a :: b :: c :: d :: e :: rest)).set n x).set (n + 1) y).set (n + 2) z).set (n + 3) p).set (n + 4) q = us ++ (x :: y :: z :: p :: q :: rest) := by
  subst hn
  rw [List.set_append_right _ _ (by omega), List.set_append_right _ _ (by omega), List.set_append_right _ _ (by omega), List.set_append_right _ _ (by omega), List.set_append_right _ _ (by omega)]
  simp [show us.length + 1 - us.length = 1 by omega, show us.length + 2 - us.length = 2 by omega, show us.length + 3 - us.length = 3 by omega, show us.length + 4 - us.length = 4 by omega]
/-- the last element of an own slice is stored whole -/
theorem OwS.last5 {α : Type} {w : World} {B : Nat} {e : TypeId} {f : α → List D} {b c : Nat} {l : List α} {x0 y : α} {us zs vs : List Value} {fi f0 fy : List Nat} (h : OwS w B e 5 f (.slice (some ⟨b, 0, none⟩) (l.length + 1) c) (l ++ [x0]) (us ++ zs) (fi ++ f0)) (hul : us.length = l.length * 5) (hc : OwC w (l.flatMap f) us fi)
    {p q r p4 p5 p' q' r' q4 q5 : Value} (hz : zs = [p', q', r', q4, q5]) (hv : vs = [p, q, r, p4, p5]) (hy : OwC w (f y) vs fy) (hn : New w (fi ++ fy) B) (hb : b ∉ fi ++ fy) :
    OwS (((((w.setCell ⟨b, l.length * 5, none⟩ p).setCell ⟨b, l.length * 5 + 1, none⟩ q).setCell ⟨b, l.length * 5 + 2, none⟩ r).setCell ⟨b, l.length * 5 + 3, none⟩ p4).setCell ⟨b, l.length * 5 + 4, none⟩ p5) B e 5 f (.slice (some ⟨b, 0, none⟩) (l.length + 1) c) (l ++ [y]) (us ++ vs) (fi ++ fy) := by
  subst hz hv
  have hw : OwC w ((l ++ [y]).flatMap f) (us ++ [p, q, r, p4, p5]) (fi ++ fy) := by
    rw [List.flatMap_append, List.flatMap_singleton]
    exact hc.append hy
  refine ⟨?_, ((((hw.setCell (a := ⟨b, l.length * 5, none⟩) hb p).setCell (a := ⟨b, l.length * 5 + 1, none⟩) hb q).setCell (a := ⟨b, l.length * 5 + 2, none⟩) hb r).setCell (a := ⟨b, l.length * 5 + 3, none⟩) hb p4).setCell (a := ⟨b, l.length * 5 + 4, none⟩) hb p5, ((((hn.setCell ⟨b, l.length * 5, none⟩ p).setCell ⟨b, l.length * 5 + 1, none⟩ q).setCell ⟨b, l.length * 5 + 2, none⟩ r).setCell ⟨b, l.length * 5 + 3, none⟩ p4).setCell ⟨b, l.length * 5 + 4, none⟩ p5, fun g hg => by injection hg with hg; subst hg; exact hb⟩
  refine ⟨by simp [hul]; omega, ?_⟩
  rcases h.own.2 with ⟨hv, _⟩ | ⟨g', cap, cur, hv, hB, hg, h3, h4, h5, h6⟩
  · cases hv
  · injection hv with hv1 hv2 hv3
    injection hv1 with hv1
    injection hv1 with hv1
    subst hv1 hv3
    have hcur : cur.toList = us ++ (p' :: q' :: r' :: q4 :: q5 :: cur.toList.drop ((l.length + 1) * 5)) := by
      have e := (List.take_append_drop ((l.length + 1) * 5) cur.toList).symm
      rw [List.length_append, List.length_singleton] at h6
      rw [h6, List.append_assoc] at e
      exact e
    have hrow : Row w b e cur.toList := by simpa [Row] using hg
    have hr3 := ((((hrow.set (l.length * 5) p).set (l.length * 5 + 1) q).set (l.length * 5 + 2) r).set (l.length * 5 + 3) p4).set (l.length * 5 + 4) p5
    rw [hcur, list_set5 _ _ _ _ _ _ _ _ _ _ _ _ _ hul.symm] at hr3
    refine .inr ⟨b, c, (us ++ (p :: q :: r :: p4 :: p5 :: cur.toList.drop ((l.length + 1) * 5))).toArray, by simp, hB, hr3, by simpa using h3, h4, ?_, ?_⟩
    · have := congrArg List.length hcur
      simp only [Array.length_toList, List.length_append, List.length_cons] at this
      simp only [List.size_toArray, List.length_append, List.length_cons]
      omega
    · rw [List.length_append, List.length_singleton, show (l.length + 1) * 5 = us.length + 5 by omega]
      rw [List.toList_toArray, List.take_length_add_append]
      rfl
/-- the block that an own slice lies in -/
theorem OwS.formT {α : Type} {w : World} {B : Nat} {e : TypeId} {k : Nat} {f : α → List D} {A : Option Addr} {n c : Nat} {l : List α} {us : List Value} {fi : List Nat} (h : OwS w B e k f (.slice A n c) l us fi) (hl : 0 < l.length) :
    n = l.length ∧ ∃ b, A = some ⟨b, 0, none⟩ ∧ B ≤ b ∧ b < w.heap.size ∧ b ∉ fi ∧ (∀ j u, us[j]? = some u → w.cell? ⟨b, j, none⟩ = some u) ∧ (∀ j, w.frozen? ⟨b, j, none⟩ = false) := by
  rcases h.own.2 with ⟨hv, hn⟩ | ⟨b, cap, cur, hv, hB, hg, h3, h4, h5, h6⟩
  · exact absurd hn (by omega)
  · injection hv with hv1 hv2 hv3
    subst hv1 hv2 hv3
    refine ⟨rfl, b, rfl, hB, h.own.lt b rfl |>.2, h.out b rfl, fun j u hj => ?_, fun j => by simp [World.frozen?, hg]⟩
    rw [cell_of_row w b j cur _ (0, 0) hg]
    rw [← h6, List.getElem?_take] at hj
    split at hj
    · simpa using hj
    · cases hj
/-- a part is appended, its cells are still to come -/
structure AppT (S : Int) (w W : World) (g lv : Nat) (v1 : Value) (ns : List ByteArray) (us1 : List Value) (v2 : Value) (blk c : Nat) (ks : List Tree) (us2 : List Value) (fi2 : List Nat) (l : List UInt8) (fail : Bool) : Prop where
  box : Row W (w.heap.size + 3) 26 (treeMkR S v1 v2)
  one : OwS W (w.heap.size + 3 + 1) 9 1 strC v1 ns us1 []
  two : OwS W (w.heap.size + 3 + 1) 26 5 Tree.cells (.slice (some ⟨blk, 0, none⟩) (ks.length + 1) c) (ks ++ [Tree.mk 0 0 .empty [] []]) (us2 ++ [.int .i64 0, .int .i64 0, .string .empty, .slice none 0 0, .slice none 0 0]) (fi2 ++ [])
  pre : OwC W (ks.flatMap Tree.cells) us2 fi2
  dis : ∀ b, v1.ownBlock = some b → b ≠ blk ∧ b ∉ fi2
  rd : RdJ W g l fail
  rb : Row W w.heap.size 65 [.pointer (some ⟨g, 0, none⟩)]
  lb : Row W (w.heap.size + 1) 3 [.int .i64 (lv : Int)]
  zb : Row W (w.heap.size + 2) 26 [.int .i64 0, .int .i64 0, .string .empty, .slice none 0 0, .slice none 0 0]
  gr : w.grownBy W (some g)
section
variable {S : Int} {w W W' : World} {g lv blk c : Nat} {v1 v2 : Value} {ns : List ByteArray} {us1 : List Value} {ks : List Tree} {us2 : List Value} {fi2 : List Nat} {l l' : List UInt8} {fail fail' : Bool}
theorem KT.app (h : KT S w W g lv v1 ns us1 v2 ks us2 fi2 l fail) (hgw : g < w.heap.size) (hg : GB W W' v2 (.slice (some ⟨blk, 0, none⟩) (ks.length + 1) c))
    (hn : OwS W' (w.heap.size + 3 + 1) 26 5 Tree.cells (.slice (some ⟨blk, 0, none⟩) (ks.length + 1) c) (ks ++ [Tree.mk 0 0 .empty [] []]) (us2 ++ [.int .i64 0, .int .i64 0, .string .empty, .slice none 0 0, .slice none 0 0]) (fi2 ++ [])) : AppT S w W' g lv v1 ns us1 v2 blk c ks us2 fi2 l fail := by
  have hlt := h.two.box.lt
  have hb : Below (w.heap.size + 3) W W' := hg.toBelow (by omega) (fun b e => by have := h.two.two.from e; omega)
  refine ⟨h.two.row2 hg, h.two.one.kept hg.grown (fun b hb => ⟨h.two.o21 b hb, fun e => h.two.dis b e hb⟩), hn, h.two.two.cells.grown' hg.grown h.two.two.new.lt (fun b hb => h.two.two.out b hb), fun b e => ⟨fun e2 => ?_, h.two.o12 b e⟩, h.rd.low hb (by omega), h.rb.below hb (by omega), h.lb.below hb (by omega), h.zb.below hb (by omega), only_lowR h.gr hb (by omega)⟩
  subst e2
  rcases gb_new hg rfl with e2 | e2
  · exact h.two.dis b e e2
  · have e3 : W.heap.size ≤ b := e2
    exact absurd (h.two.one.lt b e) (Nat.not_lt.2 e3)
theorem AppT.read (h : AppT S w W g lv v1 ns us1 v2 blk c ks us2 fi2 l fail) (hgw : g < w.heap.size) (hg : W.grownBy W' (some g)) (hr : RdJ W' g l' fail') : AppT S w W' g lv v1 ns us1 v2 blk c ks us2 fi2 l' fail' :=
  ⟨h.box.grown hg (fun e => by injection e with e; omega), h.one.kept hg (fun x e => by injection e with e; subst e; exact ⟨(fun hm => by cases hm), h.one.low (by omega)⟩),
    h.two.kept hg (fun x e => by injection e with e; subst e; exact ⟨h.two.nlow (by omega), h.two.low (by omega)⟩), h.pre.grown' hg (fun b hb => h.two.new.lt b (List.mem_append_left _ hb)) (fun b e => by injection e with e; subst e; exact fun hm => h.two.nlow (by omega) (List.mem_append_left _ hm)),
    h.dis, hr, h.rb.grown hg (fun e => by injection e with e; omega), h.lb.grown hg (fun e => by injection e with e; omega), h.zb.grown hg (fun e => by injection e with e; omega), only_trans h.gr hg⟩
theorem AppT.below (h : AppT S w W g lv v1 ns us1 v2 blk c ks us2 fi2 l fail) (hb : Below W.heap.size W W') : AppT S w W' g lv v1 ns us1 v2 blk c ks us2 fi2 l fail :=
  ⟨h.box.below hb h.box.lt, h.one.below (C := 0) hb, h.two.below (C := 0) hb, h.pre.below hb (fun b hb => h.two.new.lt b (List.mem_append_left _ hb)), h.dis, h.rd.below hb, h.rb.below hb h.rb.lt, h.lb.below hb h.lb.lt, h.zb.below hb h.zb.lt, only_trans h.gr (grownBy_below hb (some g))⟩
/-- the cells are there -/
theorem AppT.fin (h : AppT S w W g lv v1 ns us1 v2 blk c ks us2 fi2 l fail) (hgw : g < w.heap.size) {k : Tree} {p q r p4 p5 : Value} {fq : List Nat} (hul : us2.length = ks.length * 5) (ho : OwC W k.cells [p, q, r, p4, p5] fq) {m : Nat} (hn : New W fq m) (hm : ∀ b ∈ fi2, b < m) (hmb : blk < m ∨ blk ∉ fq) (hm1 : ∀ b, v1.ownBlock = some b → b < m) (hm0 : w.heap.size + 3 + 1 ≤ m) :
    KT S w ((((((W.setCell ⟨blk, ks.length * 5, none⟩ p).setCell ⟨blk, ks.length * 5 + 1, none⟩ q).setCell ⟨blk, ks.length * 5 + 2, none⟩ r).setCell ⟨blk, ks.length * 5 + 3, none⟩ p4).setCell ⟨blk, ks.length * 5 + 4, none⟩ p5).setCell ⟨w.heap.size + 3, 4, none⟩ (.slice (some ⟨blk, 0, none⟩) (ks.length + 1) c)) g lv v1 ns us1 (.slice (some ⟨blk, 0, none⟩) (ks.length + 1) c) (ks ++ [k]) (us2 ++ [p, q, r, p4, p5]) (fi2 ++ fq) l fail := by
  have hblk : w.heap.size + 3 + 1 ≤ blk := h.two.from rfl
  have hbf : blk ∉ fi2 := fun hm => h.two.out blk rfl (List.mem_append_left _ hm)
  have hbq : blk ∉ fq := by
    rcases hmb with hb | hb
    · exact fun hm => by have := (hn.fr blk hm).1; omega
    · exact hb
  have hN : New W (fi2 ++ fq) (w.heap.size + 3 + 1) := by
    refine ⟨fun b hb => ?_, List.nodup_append.2 ⟨?_, hn.nd, fun a ha b hb e => ?_⟩, fun b hb => ?_⟩
    · rcases List.mem_append.1 hb with hb | hb
      · exact h.two.new.fr b (List.mem_append_left _ hb)
      · have := hn.fr b hb
        exact ⟨by omega, this.2⟩
    · have := h.two.new.nd
      rwa [List.append_nil] at this
    · have h1 := hm a ha
      have h2 := (hn.fr b hb).1
      omega
    · rcases List.mem_append.1 hb with hb | hb
      · exact h.two.new.uf b (List.mem_append_left _ hb)
      · exact hn.uf b hb
  have h3 := h.two.last5 hul h.pre rfl rfl ho hN (fun hm => (List.mem_append.1 hm).elim hbf hbq)
  have hb3 : Below (w.heap.size + 3 + 1) W (((((W.setCell ⟨blk, ks.length * 5, none⟩ p).setCell ⟨blk, ks.length * 5 + 1, none⟩ q).setCell ⟨blk, ks.length * 5 + 2, none⟩ r).setCell ⟨blk, ks.length * 5 + 3, none⟩ p4).setCell ⟨blk, ks.length * 5 + 4, none⟩ p5) :=
    (((((Below.refl _ _).setCell (p := ⟨blk, ks.length * 5, none⟩) hblk _).setCell (p := ⟨blk, ks.length * 5 + 1, none⟩) hblk _).setCell (p := ⟨blk, ks.length * 5 + 2, none⟩) hblk _).setCell (p := ⟨blk, ks.length * 5 + 3, none⟩) hblk _).setCell (p := ⟨blk, ks.length * 5 + 4, none⟩) hblk _
  have h1 : OwS (((((W.setCell ⟨blk, ks.length * 5, none⟩ p).setCell ⟨blk, ks.length * 5 + 1, none⟩ q).setCell ⟨blk, ks.length * 5 + 2, none⟩ r).setCell ⟨blk, ks.length * 5 + 3, none⟩ p4).setCell ⟨blk, ks.length * 5 + 4, none⟩ p5) (w.heap.size + 3 + 1) 9 1 strC v1 ns us1 [] :=
    ((((h.one.setCell (p := ⟨blk, ks.length * 5, none⟩) (fun hm => by cases hm) (fun e => (h.dis _ e).1 rfl) _).setCell (p := ⟨blk, ks.length * 5 + 1, none⟩) (fun hm => by cases hm) (fun e => (h.dis _ e).1 rfl) _).setCell (p := ⟨blk, ks.length * 5 + 2, none⟩) (fun hm => by cases hm) (fun e => (h.dis _ e).1 rfl) _).setCell (p := ⟨blk, ks.length * 5 + 3, none⟩) (fun hm => by cases hm) (fun e => (h.dis _ e).1 rfl) _).setCell (p := ⟨blk, ks.length * 5 + 4, none⟩) (fun hm => by cases hm) (fun e => (h.dis _ e).1 rfl) _
  have hbox := h.box.below hb3 (by omega)
  have hB4 := fun (v : Value) => (hb3.mono (show w.heap.size + 3 ≤ w.heap.size + 3 + 1 by omega)).setCell (p := ⟨w.heap.size + 3, 4, none⟩) (Nat.le_refl _) v
  refine ⟨⟨hbox.set 4 _, h1.setCell (h1.nlow (by show w.heap.size + 3 < _; omega)) (h1.low (by show w.heap.size + 3 < _; omega)) _, h3.setCell (h3.nlow (by show w.heap.size + 3 < _; omega)) (h3.low (by show w.heap.size + 3 < _; omega)) _, Nat.lt_succ_self _, fun b e e2 => ?_, fun b e hm => ?_, (fun b _ hm => by cases hm), (fun b hm => by cases hm)⟩,
    h.rd.low (hB4 _) (by omega), h.rb.below (hB4 _) (by omega), h.lb.below (hB4 _) (by omega), h.zb.below (hB4 _) (by omega), only_lowR h.gr (hB4 _) (by omega)⟩
  · injection e2 with e2
    exact (h.dis b e).1 e2.symm
  · rcases List.mem_append.1 hm with hm | hm
    · exact (h.dis b e).2 hm
    · have h1 := hm1 b e
      have h2 := (hn.fr b hm).1
      omega
end
/-- the part is appended, its cells are known -/
structure FinT (S : Int) (w W : World) (g lv : Nat) (v1 : Value) (ns : List ByteArray) (us1 : List Value) (v2 : Value) (blk c : Nat) (ks : List Tree) (us2 : List Value) (fi2 : List Nat) (l : List UInt8) (fail : Bool) (k : Tree) (vs : List Value) (fq : List Nat) : Prop where
  app : AppT S w W g lv v1 ns us1 v2 blk c ks us2 fi2 l fail
  kid : OwC W k.cells vs fq
  far : ∃ m, New W fq m ∧ (∀ b ∈ fi2, b < m) ∧ (blk < m ∨ blk ∉ fq) ∧ (∀ b, v1.ownBlock = some b → b < m) ∧ w.heap.size + 3 + 1 ≤ m
section
variable {S : Int} {w W W' : World} {g lv blk c : Nat} {v1 v2 : Value} {ns : List ByteArray} {us1 : List Value} {ks : List Tree} {us2 : List Value} {fi2 : List Nat} {l l' : List UInt8} {fail fail' : Bool} {k : Tree} {vs : List Value} {fq : List Nat}
theorem FinT.ofA (h : KT S w W g lv v1 ns us1 v2 ks us2 fi2 l fail) (hgw : g < w.heap.size) (hg : GB W W' v2 (.slice (some ⟨blk, 0, none⟩) (ks.length + 1) c))
    (hn : OwS W' (w.heap.size + 3 + 1) 26 5 Tree.cells (.slice (some ⟨blk, 0, none⟩) (ks.length + 1) c) (ks ++ [Tree.mk 0 0 .empty [] []]) (us2 ++ [.int .i64 0, .int .i64 0, .string .empty, .slice none 0 0, .slice none 0 0]) (fi2 ++ []))
    (ho : OwC W k.cells vs fq) {m : Nat} (hnw : New W fq m) (hm : ∀ b ∈ fi2, b < m) (hm1 : ∀ b, v1.ownBlock = some b → b < m) (hm2 : ∀ b, v2.ownBlock = some b → b < m) (hm0 : w.heap.size + 3 + 1 ≤ m) : FinT S w W' g lv v1 ns us1 v2 blk c ks us2 fi2 l fail k vs fq := by
  refine ⟨h.app hgw hg hn, ho.grown' hg.grown hnw.lt (fun b e => hnw.out (hm2 b e)), m, hnw.grown hg.grown (fun b e => hnw.out (hm2 b e)), hm, ?_, hm1, hm0⟩
  rcases gb_new hg rfl with e2 | e2
  · exact .inl (hm2 blk e2)
  · exact .inr (fun hm => absurd (hnw.lt blk hm) (Nat.not_lt.2 e2))
theorem FinT.ofC (h : AppT S w W g lv v1 ns us1 v2 blk c ks us2 fi2 l fail) (hgw : g < w.heap.size) (hg : W.grownBy W' (some g)) (hr : RdJ W' g l' fail') (ho : OwC W' k.cells vs fq) (hnw : New W' fq W.heap.size) : FinT S w W' g lv v1 ns us1 v2 blk c ks us2 fi2 l' fail' k vs fq :=
  ⟨h.read hgw hg hr, ho, W.heap.size, hnw, fun b hb => h.two.new.lt b (List.mem_append_left _ hb), .inl (h.two.lt blk rfl), fun b e => h.one.lt b e, Nat.le_trans (Nat.succ_le_of_lt h.box.lt) (Nat.le_refl _)⟩
theorem AppT.cells (h : AppT S w W g lv v1 ns us1 v2 blk c ks us2 fi2 l fail) : us2.length = ks.length * 5 ∧ blk < W.heap.size ∧ W.cell? ⟨blk, ks.length * 5, none⟩ = some (.int .i64 0) ∧ W.cell? ⟨blk, ks.length * 5 + 1, none⟩ = some (.int .i64 0) ∧ W.cell? ⟨blk, ks.length * 5 + 2, none⟩ = some (.string .empty) ∧ W.cell? ⟨blk, ks.length * 5 + 3, none⟩ = some (.slice none 0 0) ∧ W.cell? ⟨blk, ks.length * 5 + 4, none⟩ = some (.slice none 0 0) ∧ (∀ j, W.frozen? ⟨blk, j, none⟩ = false) ∧
    W.cell? ⟨w.heap.size + 3, 4, none⟩ = some v2 ∧ W.frozen? ⟨w.heap.size + 3, 4, none⟩ = false ∧ w.heap.size + 3 < W.heap.size ∧ w.heap.size + 3 < blk := by
  have hul : us2.length = ks.length * 5 := by rw [h.pre.length, flat_len Tree.cells 5 Tree.cells_len]
  obtain ⟨_, b, eA, eb1, eb2, eb3, eb4, eb5⟩ := h.two.formT (by rw [List.length_append, List.length_singleton]; omega)
  injection eA with eA
  injection eA with eA
  subst eA
  refine ⟨hul, eb2, eb4 _ _ ?_, eb4 _ _ ?_, eb4 _ _ ?_, eb4 _ _ ?_, eb4 _ _ ?_, eb5, h.box.cell 4, h.box.frozen 4, h.box.lt, by omega⟩
  · rw [List.getElem?_append_right (by omega), hul, Nat.sub_self]; rfl
  · rw [List.getElem?_append_right (by omega), hul, show ks.length * 5 + 1 - ks.length * 5 = 1 by omega]; rfl
  · rw [List.getElem?_append_right (by omega), hul, show ks.length * 5 + 2 - ks.length * 5 = 2 by omega]; rfl
  · rw [List.getElem?_append_right (by omega), hul, show ks.length * 5 + 3 - ks.length * 5 = 3 by omega]; rfl
  · rw [List.getElem?_append_right (by omega), hul, show ks.length * 5 + 4 - ks.length * 5 = 4 by omega]; rfl
theorem FinT.done {p q r p4 p5 : Value} (h : FinT S w W g lv v1 ns us1 v2 blk c ks us2 fi2 l fail k [p, q, r, p4, p5] fq) (hgw : g < w.heap.size) :
    KT S w ((((((W.setCell ⟨blk, ks.length * 5, none⟩ p).setCell ⟨blk, ks.length * 5 + 1, none⟩ q).setCell ⟨blk, ks.length * 5 + 2, none⟩ r).setCell ⟨blk, ks.length * 5 + 3, none⟩ p4).setCell ⟨blk, ks.length * 5 + 4, none⟩ p5).setCell ⟨w.heap.size + 3, 4, none⟩ (.slice (some ⟨blk, 0, none⟩) (ks.length + 1) c)) g lv v1 ns us1 (.slice (some ⟨blk, 0, none⟩) (ks.length + 1) c) (ks ++ [k]) (us2 ++ [p, q, r, p4, p5]) (fi2 ++ fq) l fail := by
  obtain ⟨m, h1, h2, h3, h4, h5⟩ := h.far
  exact h.app.fin hgw h.app.cells.1 h.kid h1 h2 h3 h4 h5
end
theorem ne_lt3T {a b : Nat} (h : a + 3 < b) : a ≠ b := by omega
theorem ne_lt1T {a b : Nat} (h : a + 3 < b) : a + 1 ≠ b := by omega
theorem SrcAt.ofRowT {w : World} {g : Nat} {t : TypeId} {cs : List Value} (h : Row w g t cs) (m c : Nat) : SrcAt w cs (some ⟨g, 0, none⟩) m c :=
  .inr ⟨_, rfl, fun j u hu => by rw [Addr.add_lit, Nat.zero_add, h.cell]; exact hu⟩
theorem Lay.far {w w' : World} {g : Nat} (h : Lay w) (hg : w.grownBy w' (some g)) (h7 : 5 < g) (hw : g < w.heap.size) : Lay w' := h.low (B := g) (below_of_grown hg (Nat.le_refl _) (Nat.le_of_lt hw)) h7
def TreeRdI (f : Nat) : Prop := ∀ (l : List UInt8) (bad : Bool) (g lv : Nat) (w : World), lv + f = 7 → 1 ≤ lv → Lay w → 5 < g → RdJ w g l bad →
  Calls Tryz.prog 47 #[.pointer (some ⟨g, 0, none⟩), .int .i64 (lv : Int)] w (TreeOutR (fun w l b => RdJ w g l b) g lv l bad w)
/-- one part more -/
def PartOutT (S : Int) (w : World) (g lv : Nat) (ns : List ByteArray) (ks : List Tree) (l : List UInt8) (e : Ending) (w' : World) : Prop :=
  ∃ (nx : List ByteArray) (k : Tree) (l4 l' : List UInt8) (b4 b' : Bool) (B1 : Option Addr) (n1 d1 : Nat) (us1' : List Value) (B2 : Option Addr) (n2 d2 : Nat) (us2' : List Value) (fi2' : List Nat), e = .returned (.tuple #[]) ∧
    KT S w w' g lv (.slice B1 n1 d1) (ns ++ nx) us1' (.slice B2 n2 d2) (ks ++ [k]) us2' fi2' l' b' ∧ NxJ S l nx l4 b4 ∧ Paid (lv + 1) l4 k.bulk l' b' ∧ TakesT (lv + 1) l4 b4 k l' b' ∧ (b' = false → b4 = false)
end Go.Proofs.YtnaecdoeldoipaaGreatDoor
set_option linter.unusedVariables false
set_option linter.unusedSimpArgs false
namespace Go.Proofs.YtnaecdoeldoipaaGreatDoor
open Go.ChangeShapes Go.WideShapes Go.ChangeAt Go.RowKit

def opOf (s : Int) : UInt8 := if s = 5 then 123 else 91
/-- a form has a name for each part -/
def LenT (s : Int) (ns : List ByteArray) (ks : List Tree) : Prop := s = 5 → ns.length = ks.length
theorem LenT.nil {s : Int} : LenT s [] [] := fun _ => rfl
/-- ahead of a part: so many are read, one more must come -/
def HeadT (s : Int) (lv : Nat) (l0 : List UInt8) (b : Bool) (ns : List ByteArray) (ks : List Tree) (l : List UInt8) : Prop :=
  ∀ (ns0 : List ByteArray) (ks0 : List Tree) (R : List UInt8), Fits s ns0 ks0 → Tree.goodS ks0 (lv + 1) → l0 = trS s true ns0 ks0 ++ endOf s :: R →
    b = false ∧ ∃ ns1 k1 ks1, ns0 = ns ++ ns1 ∧ ks0 = ks ++ k1 :: ks1 ∧ Fits s ns1 (k1 :: ks1) ∧ l = ((if s = 5 then bl (ns1.headD .empty) ++ [58] else []) ++ (bl k1.wr ++ trS s false ns1.tail ks1)) ++ endOf s :: R
section
variable {s : Int} {lv : Nat} {l0 l l' l2 l4 : List UInt8} {b b' b4 c ok : Bool} {ns nx : List ByteArray} {ks : List Tree} {k : Tree}
theorem HeadT.start (h : Eaten [endOf s] l0 false l) : HeadT s lv l0 false [] [] l := by
  intro ns0 ks0 R hn hg e
  obtain ⟨rfl, hno⟩ := h.no
  refine ⟨rfl, ?_⟩
  match ks0, hn, e with
  | [], hn, e => exact absurd e (hno R)
  | k :: ks, hn, e => exact ⟨ns0, k, ks, rfl, rfl, hn, by rw [e]; simp [trS]⟩
theorem HeadT.part (h : HeadT s lv l0 false ns ks l) (h2 : NxJ s l nx l4 b4) (h4 : TakesT (lv + 1) l4 b4 k l' b') : PartsAt s lv l0 false b' (ns ++ nx) (ks ++ [k]) l' := by
  intro ns0 ks0 R hn hg e
  obtain ⟨_, ns1, k0, ks2, e1, e2, e3, e4⟩ := h ns0 ks0 R hn hg e
  have hgk : k0.good (lv + 1) := Tree.goodS_mem _ _ hg k0 (by rw [e2]; simp)
  rcases h2 with ⟨rfl, x, rfl, _, hnm⟩ | ⟨rfl, rfl, rfl, rfl⟩
  · rcases e3 with ⟨_, hl, hno⟩ | ⟨h5, _⟩
    · match ns1, hl, hno, e1, e4 with
      | n :: ns2, hl, hno, e1, e4 =>
        simp only [if_true, List.headD_cons, List.tail_cons] at e4
        obtain ⟨rfl, hl4, hb4⟩ := hnm.2.2 n (bl k0.wr ++ (trS 5 false ns2 ks2 ++ endOf 5 :: R)) (hno n (by simp)) rfl (by rw [e4]; simp [List.append_assoc])
        obtain ⟨rfl, hb5, hl5⟩ := h4 k0 _ hgk (trS_ender 5 ns2 ks2 R) hb4 hl4
        exact ⟨hb5, ns2, ks2, by rw [e1]; simp, by rw [e2]; simp, .inl ⟨rfl, by simpa using hl, fun m hm => hno m (by simp [hm])⟩, hl5⟩
    · exact absurd h5 (by decide)
  · rcases e3 with ⟨h5, _⟩ | ⟨_, rfl⟩
    · exact absurd h5 (by decide)
    · have e5 : l4 = bl k0.wr ++ (trS 4 false [] ks2 ++ endOf 4 :: R) := by
        rw [e4, if_neg (by decide)]
        simp
      obtain ⟨rfl, hb5, hl5⟩ := h4 k0 _ hgk (trS_ender 4 [] ks2 R) rfl e5
      exact ⟨hb5, [], ks2, by rw [e1]; simp, by rw [e2]; simp, .inr ⟨rfl, rfl⟩, hl5⟩
theorem PartsAt.comma (h : PartsAt s lv l0 false b ns ks l) (hb : b = false) (hne : ∀ r, l ≠ endOf s :: r) (h1 : Eaten [44] l ok l') : HeadT s lv l0 (!ok) ns ks l' := by
  intro ns0 ks0 R hn hg e
  obtain ⟨_, ns1, ks1, e1, e2, e3, e4⟩ := h ns0 ks0 R hn hg e
  match ks1, e2, e3, e4 with
  | [], _, _, e4 => exact absurd e4 (hne R)
  | k0 :: ks2, e2, e3, e4 =>
    obtain ⟨rfl, rfl⟩ := h1.yes (r := ((if s = 5 then bl (ns1.headD .empty) ++ [58] else []) ++ (bl k0.wr ++ trS s false ns1.tail ks2)) ++ endOf s :: R) (by rw [e4]; simp [trS])
    exact ⟨rfl, ns1, k0, ks2, e1, e2, e3, rfl⟩
theorem PartsAt.dead (h : PartsAt s lv l0 c true ns ks l) : HeadT s lv l0 true ns ks l2 := fun ns0 ks0 R hn hg e => by
  obtain ⟨h, _⟩ := h ns0 ks0 R hn hg e
  cases h
theorem HeadT.dead (h : HeadT s lv l0 true ns ks l) : PartsAt s lv l0 true true ns ks l2 := fun ns0 ks0 R hn hg e => by
  obtain ⟨h, _⟩ := h ns0 ks0 R hn hg e
  cases h
theorem TakesT.shut (hs : s = 4 ∨ s = 5) (h : PartsAt s lv l0 c b ns ks l) (hr : b = false → l = endOf s :: l') : TakesT lv (opOf s :: l0) false (.mk s 0 .empty ns ks) l' b := by
  rcases hs with rfl | rfl
  · exact TakesT.list h rfl hr
  · exact TakesT.form h rfl hr
theorem PaidF.less {n : Nat} {l1 lx l2 : List UInt8} {b b' : Bool} (h : PaidF lv l1 n lx b) (hl : l2.length ≤ lx.length) (hb : b' = false → b = false) : PaidF lv l1 n l2 b' := by
  obtain ⟨h1, h2, h3⟩ := h
  exact ⟨by omega, by omega, fun hf => by have := h3 (hb hf); omega⟩
theorem bulkStrs_nil : bulkStrs [] = 0 := rfl
theorem bulkStrs_one (x : ByteArray) : bulkStrs [x] = 1 + x.size := by simp [bulkStrs, bulkStr]
theorem bulkStrs_app (a b : List ByteArray) : bulkStrs (a ++ b) = bulkStrs a + bulkStrs b := by
  unfold bulkStrs
  rw [bulkStr_append, List.length_append]
  omega
theorem NxJ.less (h : NxJ s l nx l4 b4) : l4.length ≤ l.length := by
  rcases h with ⟨_, x, _, _, h1, _⟩ | ⟨_, _, rfl, _⟩
  · omega
  · exact Nat.le_refl _
theorem NxJ.fits (h : NxJ s l nx l4 b4) (hl : LenT s ns ks) : LenT s (ns ++ nx) (ks ++ [k]) := by
  rintro rfl
  rcases h with ⟨_, x, rfl, _⟩ | ⟨h, _⟩
  · rw [List.length_append, List.length_append, hl rfl]; rfl
  · exact absurd h (by decide)
theorem PaidF.part {n nk : Nat} {l1 lx : List UInt8} (h : PaidF lv l1 n lx false) (h2 : NxJ s lx nx l4 b4) (h5 : Paid (lv + 1) l4 nk l' b') (hb : b' = false → b4 = false) (hlv : lv ≤ 6) : PaidF lv l1 (n + bulkStrs nx + 1 + nk) l' b' := by
  obtain ⟨a1, a2, a3⟩ := h
  obtain ⟨c1, c2, c3⟩ := h5
  have a4 := a3 rfl
  rcases h2 with ⟨_, x, rfl, _, d1, d2, _⟩ | ⟨_, rfl, rfl, rfl⟩
  · rw [bulkStrs_one]
    refine ⟨by omega, by omega, fun hf => ?_⟩
    have c4 := c3 hf
    have d4 := d2 (hb hf)
    omega
  · rw [bulkStrs_nil]
    refine ⟨by omega, by omega, fun hf => ?_⟩
    have c4 := c3 hf
    omega
theorem paid_done {n : Nat} {l1 lx : List UInt8} {o : UInt8} (h : PaidF lv l1 n lx b) (hl : l'.length ≤ lx.length) (hb : b = false → l'.length < lx.length) : Paid lv (o :: l1) n l' b := PaidF.done rfl h hl hb
/-- nothing that begins a tree, but for a number -/
theorem eaten_head {u l l' : List UInt8} {c : UInt8} (h : Eaten (c :: u) l true l') : ∀ a r, l = a :: r → a = c := fun a r e => by
  rcases h with ⟨_, h⟩ | ⟨h, _⟩
  · rw [h] at e
    simp only [List.cons_append] at e
    injection e with e _
    exact e.symm
  · cases h
end
end Go.Proofs.YtnaecdoeldoipaaGreatDoor
