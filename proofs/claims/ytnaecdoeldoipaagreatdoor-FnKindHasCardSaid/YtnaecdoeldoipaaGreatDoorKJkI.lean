/-
  Reading schemas from texts: the state of a form as the program reads it. Reading schemas from texts: what the program does for each part of a form.
-/
import Derived.Deep.RegionHeld3
import Derived.Deep.RegionLaw
import Derived.Deep.CutRange
import Derived.Deep.DeepCutAuto
import Derived.Test.YtnaecdoeldoipaaGreatDoorKJkT
import Derived.Test.YtnaecdoeldoipaaGreatDoorKRkJ
set_option linter.unusedVariables false
set_option linter.unusedSimpArgs false
namespace Go.Proofs.YtnaecdoeldoipaaGreatDoor
open Go.ChangeShapes Go.WideShapes Go.ChangeAt Go.RowKit

/-- a form as it grows: the reader, what the closure captured, the result's block -/
structure KJ (w wr : World) (g lv : Nat) (v1 : Value) (ns : List ByteArray) (us1 : List Value) (v2 : Value) (ks : List Kind) (us2 : List Value) (fi2 : List Nat) (l : List UInt8) (fail : Bool) : Prop where
  two : KindAt wr (w.heap.size + 3) 5 v1 ns us1 v2 ks us2 fi2
  rd : RdJ wr g l fail
  rb : Row wr w.heap.size 65 [.pointer (some ⟨g, 0, none⟩)]
  lb : Row wr (w.heap.size + 1) 3 [.int .i64 (lv : Int)]
  zb : Row wr (w.heap.size + 2) 38 [.int .i64 0, .slice none 0 0, .slice none 0 0]
  gr : w.grownBy wr (some g)
section
variable {w wr w' : World} {g lv : Nat} {v1 v1' : Value} {ns ns' : List ByteArray} {us1 us1' : List Value} {v2 v2' : Value} {ks ks' : List Kind} {us2 us2' : List Value} {fi2 fi2' : List Nat} {l l' : List UInt8} {fail fail' : Bool}
/-- the reader went on, nothing else turned -/
theorem KJ.read (h : KJ w wr g lv v1 ns us1 v2 ks us2 fi2 l fail) (hgw : g < w.heap.size) (hg : wr.grownBy w' (some g)) (hr : RdJ w' g l' fail') : KJ w w' g lv v1 ns us1 v2 ks us2 fi2 l' fail' :=
  ⟨h.two.far hg (by omega), hr, h.rb.grown hg (fun e => by injection e with e; omega), h.lb.grown hg (fun e => by injection e with e; omega), h.zb.grown hg (fun e => by injection e with e; omega), only_trans h.gr hg⟩
/-- nothing below the box turned -/
theorem KJ.put (h : KJ w wr g lv v1 ns us1 v2 ks us2 fi2 l fail) (hgw : g < w.heap.size) (hb : Below (w.heap.size + 3) wr w') (ht : KindAt w' (w.heap.size + 3) 5 v1' ns' us1' v2' ks' us2' fi2') : KJ w w' g lv v1' ns' us1' v2' ks' us2' fi2' l fail :=
  ⟨ht, h.rd.low hb (by omega), h.rb.below hb (by omega), h.lb.below hb (by omega), h.zb.below hb (by omega), only_low h.gr hb (by omega)⟩
theorem KJ.drewN (h : KJ w wr g lv v1 ns us1 v2 ks us2 fi2 l fail) (n : Nat) : KJ w (wr.drewN n) g lv v1 ns us1 v2 ks us2 fi2 l fail :=
  ⟨h.two.drewN n, h.rd.drewN n, h.rb.drewN n, h.lb.drewN n, h.zb.drewN n, only_drewN h.gr n⟩
theorem KJ.alloc (h : KJ w wr g lv v1 ns us1 v2 ks us2 fi2 l fail) (hgw : g < w.heap.size) (o : Obj) : KJ w (wr.alloc o) g lv v1 ns us1 v2 ks us2 fi2 l fail :=
  h.put hgw ((Below.refl _ _).alloc (Nat.le_of_lt h.two.box.lt) o) (h.two.alloc o)
end
theorem list_set3 (us rest : List Value) (a b c x y z : Value) (n : Nat) (hn : n = us.length) : (((us ++ (a :: b :: c :: rest)).set n x).set (n + 1) y).set (n + 2) z = us ++ (x :: y :: z :: rest) := by
  subst hn
  rw [List.set_append_right _ _ (by omega), List.set_append_right _ _ (by omega), List.set_append_right _ _ (by omega)]
  simp [show us.length + 1 - us.length = 1 by omega, show us.length + 2 - us.length = 2 by omega]
/-- the last element of an own slice is stored whole -/
theorem OwS.last3 {α : Type} {w : World} {B : Nat} {e : TypeId} {f : α → List D} {b c : Nat} {l : List α} {x0 y : α} {us zs vs : List Value} {fi f0 fy : List Nat} (h : OwS w B e 3 f (.slice (some ⟨b, 0, none⟩) (l.length + 1) c) (l ++ [x0]) (us ++ zs) (fi ++ f0)) (hul : us.length = l.length * 3) (hc : OwC w (l.flatMap f) us fi)
    {p q r p' q' r' : Value} (hz : zs = [p', q', r']) (hv : vs = [p, q, r]) (hy : OwC w (f y) vs fy) (hn : New w (fi ++ fy) B) (hb : b ∉ fi ++ fy) :
    OwS (((w.setCell ⟨b, l.length * 3, none⟩ p).setCell ⟨b, l.length * 3 + 1, none⟩ q).setCell ⟨b, l.length * 3 + 2, none⟩ r) B e 3 f (.slice (some ⟨b, 0, none⟩) (l.length + 1) c) (l ++ [y]) (us ++ vs) (fi ++ fy) := by
  subst hz hv
  have hw : OwC w ((l ++ [y]).flatMap f) (us ++ [p, q, r]) (fi ++ fy) := by
    rw [List.flatMap_append, List.flatMap_singleton]
    exact hc.append hy
  refine ⟨?_, ((hw.setCell (a := ⟨b, l.length * 3, none⟩) hb p).setCell (a := ⟨b, l.length * 3 + 1, none⟩) hb q).setCell (a := ⟨b, l.length * 3 + 2, none⟩) hb r, ((hn.setCell ⟨b, l.length * 3, none⟩ p).setCell ⟨b, l.length * 3 + 1, none⟩ q).setCell ⟨b, l.length * 3 + 2, none⟩ r, fun g hg => by injection hg with hg; subst hg; exact hb⟩
  refine ⟨by simp [hul]; omega, ?_⟩
  rcases h.own.2 with ⟨hv, _⟩ | ⟨g', cap, cur, hv, hB, hg, h3, h4, h5, h6⟩
  · cases hv
  · injection hv with hv1 hv2 hv3
    injection hv1 with hv1
    injection hv1 with hv1
    subst hv1 hv3
    have hcur : cur.toList = us ++ (p' :: q' :: r' :: cur.toList.drop ((l.length + 1) * 3)) := by
      have e := (List.take_append_drop ((l.length + 1) * 3) cur.toList).symm
      rw [List.length_append, List.length_singleton] at h6
      rw [h6, List.append_assoc] at e
      exact e
    have hrow : Row w b e cur.toList := by simpa [Row] using hg
    have hr3 := ((hrow.set (l.length * 3) p).set (l.length * 3 + 1) q).set (l.length * 3 + 2) r
    rw [hcur, list_set3 _ _ _ _ _ _ _ _ _ hul.symm] at hr3
    refine .inr ⟨b, c, (us ++ (p :: q :: r :: cur.toList.drop ((l.length + 1) * 3))).toArray, by simp, hB, hr3, by simpa using h3, h4, ?_, ?_⟩
    · have := congrArg List.length hcur
      simp only [Array.length_toList, List.length_append, List.length_cons] at this
      simp only [List.size_toArray, List.length_append, List.length_cons]
      omega
    · rw [List.length_append, List.length_singleton, show (l.length + 1) * 3 = us.length + 3 by omega]
      rw [List.toList_toArray, List.take_length_add_append]
      rfl
/-- the block that an own slice lies in -/
theorem OwS.formG {α : Type} {w : World} {B : Nat} {e : TypeId} {k : Nat} {f : α → List D} {A : Option Addr} {n c : Nat} {l : List α} {us : List Value} {fi : List Nat} (h : OwS w B e k f (.slice A n c) l us fi) (hl : 0 < l.length) :
    n = l.length ∧ ∃ b, A = some ⟨b, 0, none⟩ ∧ B ≤ b ∧ b < w.heap.size ∧ b ∉ fi ∧ (∀ j u, us[j]? = some u → w.cell? ⟨b, j, none⟩ = some u) ∧ (∀ j, w.frozen? ⟨b, j, none⟩ = false) := by
  rcases h.own.2 with ⟨hv, hn⟩ | ⟨b, cap, cur, hv, hB, hg, h3, h4, h5, h6⟩
  · exact absurd hn (by omega)
  · injection hv with hv1 hv2 hv3
    subst hv1 hv2 hv3
    refine ⟨rfl, b, rfl, hB, h.own.lt b rfl |>.2, h.out b rfl, fun j u hj => ?_, fun j => by simp [World.frozen?, hg]⟩
    rw [cell_of_row w b j cur _ (0, 0) hg]
    rw [← h6, List.getElem?_take] at hj
    split at hj
    · simpa using hj
    · cases hj
/-- a part is appended, its cells are still to come -/
structure AppJ (w W : World) (g lv : Nat) (v1 : Value) (ns : List ByteArray) (us1 : List Value) (v2 : Value) (blk c : Nat) (ks : List Kind) (us2 : List Value) (fi2 : List Nat) (l : List UInt8) (fail : Bool) : Prop where
  box : Row W (w.heap.size + 3) 38 (kindMk 5 v1 v2)
  one : OwS W (w.heap.size + 3 + 1) 9 1 strC v1 ns us1 []
  two : OwS W (w.heap.size + 3 + 1) 38 3 Kind.cells (.slice (some ⟨blk, 0, none⟩) (ks.length + 1) c) (ks ++ [Kind.mk 0 [] []]) (us2 ++ [.int .i64 0, .slice none 0 0, .slice none 0 0]) (fi2 ++ [])
  pre : OwC W (ks.flatMap Kind.cells) us2 fi2
  dis : ∀ b, v1.ownBlock = some b → b ≠ blk ∧ b ∉ fi2
  rd : RdJ W g l fail
  rb : Row W w.heap.size 65 [.pointer (some ⟨g, 0, none⟩)]
  lb : Row W (w.heap.size + 1) 3 [.int .i64 (lv : Int)]
  zb : Row W (w.heap.size + 2) 38 [.int .i64 0, .slice none 0 0, .slice none 0 0]
  gr : w.grownBy W (some g)
section
variable {w W W' : World} {g lv blk c : Nat} {v1 v2 : Value} {ns : List ByteArray} {us1 : List Value} {ks : List Kind} {us2 : List Value} {fi2 : List Nat} {l l' : List UInt8} {fail fail' : Bool}
theorem KJ.app (h : KJ w W g lv v1 ns us1 v2 ks us2 fi2 l fail) (hgw : g < w.heap.size) (hg : GB W W' v2 (.slice (some ⟨blk, 0, none⟩) (ks.length + 1) c))
    (hn : OwS W' (w.heap.size + 3 + 1) 38 3 Kind.cells (.slice (some ⟨blk, 0, none⟩) (ks.length + 1) c) (ks ++ [Kind.mk 0 [] []]) (us2 ++ [.int .i64 0, .slice none 0 0, .slice none 0 0]) (fi2 ++ [])) : AppJ w W' g lv v1 ns us1 v2 blk c ks us2 fi2 l fail := by
  have hlt := h.two.box.lt
  have hb : Below (w.heap.size + 3) W W' := hg.toBelow (by omega) (fun b e => by have := h.two.two.from e; omega)
  refine ⟨h.two.row2 hg, h.two.one.kept hg.grown (fun b hb => ⟨h.two.o21 b hb, fun e => h.two.dis b e hb⟩), hn, h.two.two.cells.grown' hg.grown h.two.two.new.lt (fun b hb => h.two.two.out b hb), fun b e => ⟨fun e2 => ?_, h.two.o12 b e⟩, h.rd.low hb (by omega), h.rb.below hb (by omega), h.lb.below hb (by omega), h.zb.below hb (by omega), only_low h.gr hb (by omega)⟩
  subst e2
  rcases gb_new hg rfl with e2 | e2
  · exact h.two.dis b e e2
  · have e3 : W.heap.size ≤ b := e2
    exact absurd (h.two.one.lt b e) (Nat.not_lt.2 e3)
theorem AppJ.read (h : AppJ w W g lv v1 ns us1 v2 blk c ks us2 fi2 l fail) (hgw : g < w.heap.size) (hg : W.grownBy W' (some g)) (hr : RdJ W' g l' fail') : AppJ w W' g lv v1 ns us1 v2 blk c ks us2 fi2 l' fail' :=
  ⟨h.box.grown hg (fun e => by injection e with e; omega), h.one.kept hg (fun x e => by injection e with e; subst e; exact ⟨(fun hm => by cases hm), h.one.low (by omega)⟩),
    h.two.kept hg (fun x e => by injection e with e; subst e; exact ⟨h.two.nlow (by omega), h.two.low (by omega)⟩), h.pre.grown' hg (fun b hb => h.two.new.lt b (List.mem_append_left _ hb)) (fun b e => by injection e with e; subst e; exact fun hm => h.two.nlow (by omega) (List.mem_append_left _ hm)),
    h.dis, hr, h.rb.grown hg (fun e => by injection e with e; omega), h.lb.grown hg (fun e => by injection e with e; omega), h.zb.grown hg (fun e => by injection e with e; omega), only_trans h.gr hg⟩
theorem AppJ.below (h : AppJ w W g lv v1 ns us1 v2 blk c ks us2 fi2 l fail) (hb : Below W.heap.size W W') : AppJ w W' g lv v1 ns us1 v2 blk c ks us2 fi2 l fail :=
  ⟨h.box.below hb h.box.lt, h.one.below (C := 0) hb, h.two.below (C := 0) hb, h.pre.below hb (fun b hb => h.two.new.lt b (List.mem_append_left _ hb)), h.dis, h.rd.below hb, h.rb.below hb h.rb.lt, h.lb.below hb h.lb.lt, h.zb.below hb h.zb.lt, only_trans h.gr (grownBy_below hb (some g))⟩
/-- the cells are there -/
theorem AppJ.fin (h : AppJ w W g lv v1 ns us1 v2 blk c ks us2 fi2 l fail) (hgw : g < w.heap.size) {k : Kind} {p q r : Value} {fq : List Nat} (hul : us2.length = ks.length * 3) (ho : OwC W k.cells [p, q, r] fq) {m : Nat} (hn : New W fq m) (hm : ∀ b ∈ fi2, b < m) (hmb : blk < m ∨ blk ∉ fq) (hm1 : ∀ b, v1.ownBlock = some b → b < m) (hm0 : w.heap.size + 3 + 1 ≤ m) :
    KJ w ((((W.setCell ⟨blk, ks.length * 3, none⟩ p).setCell ⟨blk, ks.length * 3 + 1, none⟩ q).setCell ⟨blk, ks.length * 3 + 2, none⟩ r).setCell ⟨w.heap.size + 3, 2, none⟩ (.slice (some ⟨blk, 0, none⟩) (ks.length + 1) c)) g lv v1 ns us1 (.slice (some ⟨blk, 0, none⟩) (ks.length + 1) c) (ks ++ [k]) (us2 ++ [p, q, r]) (fi2 ++ fq) l fail := by
  have hblk : w.heap.size + 3 + 1 ≤ blk := h.two.from rfl
  have hbf : blk ∉ fi2 := fun hm => h.two.out blk rfl (List.mem_append_left _ hm)
  have hbq : blk ∉ fq := by
    rcases hmb with hb | hb
    · exact fun hm => by have := (hn.fr blk hm).1; omega
    · exact hb
  have hN : New W (fi2 ++ fq) (w.heap.size + 3 + 1) := by
    refine ⟨fun b hb => ?_, List.nodup_append.2 ⟨?_, hn.nd, fun a ha b hb e => ?_⟩, fun b hb => ?_⟩
    · rcases List.mem_append.1 hb with hb | hb
      · exact h.two.new.fr b (List.mem_append_left _ hb)
      · have := hn.fr b hb
        exact ⟨by omega, this.2⟩
    · have := h.two.new.nd
      rwa [List.append_nil] at this
    · have h1 := hm a ha
      have h2 := (hn.fr b hb).1
      omega
    · rcases List.mem_append.1 hb with hb | hb
      · exact h.two.new.uf b (List.mem_append_left _ hb)
      · exact hn.uf b hb
  have h3 := h.two.last3 hul h.pre rfl rfl ho hN (fun hm => (List.mem_append.1 hm).elim hbf hbq)
  have hb3 : Below (w.heap.size + 3 + 1) W (((W.setCell ⟨blk, ks.length * 3, none⟩ p).setCell ⟨blk, ks.length * 3 + 1, none⟩ q).setCell ⟨blk, ks.length * 3 + 2, none⟩ r) :=
    (((Below.refl _ _).setCell (p := ⟨blk, ks.length * 3, none⟩) hblk _).setCell (p := ⟨blk, ks.length * 3 + 1, none⟩) hblk _).setCell (p := ⟨blk, ks.length * 3 + 2, none⟩) hblk _
  have h1 : OwS (((W.setCell ⟨blk, ks.length * 3, none⟩ p).setCell ⟨blk, ks.length * 3 + 1, none⟩ q).setCell ⟨blk, ks.length * 3 + 2, none⟩ r) (w.heap.size + 3 + 1) 9 1 strC v1 ns us1 [] :=
    ((h.one.setCell (p := ⟨blk, ks.length * 3, none⟩) (fun hm => by cases hm) (fun e => (h.dis _ e).1 rfl) _).setCell (p := ⟨blk, ks.length * 3 + 1, none⟩) (fun hm => by cases hm) (fun e => (h.dis _ e).1 rfl) _).setCell (p := ⟨blk, ks.length * 3 + 2, none⟩) (fun hm => by cases hm) (fun e => (h.dis _ e).1 rfl) _
  have hbox := h.box.below hb3 (by omega)
  have hB4 := fun (v : Value) => (hb3.mono (show w.heap.size + 3 ≤ w.heap.size + 3 + 1 by omega)).setCell (p := ⟨w.heap.size + 3, 2, none⟩) (Nat.le_refl _) v
  refine ⟨⟨hbox.set 2 _, h1.setCell (h1.nlow (by show w.heap.size + 3 < _; omega)) (h1.low (by show w.heap.size + 3 < _; omega)) _, h3.setCell (h3.nlow (by show w.heap.size + 3 < _; omega)) (h3.low (by show w.heap.size + 3 < _; omega)) _, Nat.lt_succ_self _, fun b e e2 => ?_, fun b e hm => ?_, (fun b _ hm => by cases hm), (fun b hm => by cases hm)⟩,
    h.rd.low (hB4 _) (by omega), h.rb.below (hB4 _) (by omega), h.lb.below (hB4 _) (by omega), h.zb.below (hB4 _) (by omega), only_low h.gr (hB4 _) (by omega)⟩
  · injection e2 with e2
    exact (h.dis b e).1 e2.symm
  · rcases List.mem_append.1 hm with hm | hm
    · exact (h.dis b e).2 hm
    · have h1 := hm1 b e
      have h2 := (hn.fr b hm).1
      omega
end
/-- the part is appended, its cells are known -/
structure FinJ (w W : World) (g lv : Nat) (v1 : Value) (ns : List ByteArray) (us1 : List Value) (v2 : Value) (blk c : Nat) (ks : List Kind) (us2 : List Value) (fi2 : List Nat) (l : List UInt8) (fail : Bool) (k : Kind) (vs : List Value) (fq : List Nat) : Prop where
  app : AppJ w W g lv v1 ns us1 v2 blk c ks us2 fi2 l fail
  kid : OwC W k.cells vs fq
  far : ∃ m, New W fq m ∧ (∀ b ∈ fi2, b < m) ∧ (blk < m ∨ blk ∉ fq) ∧ (∀ b, v1.ownBlock = some b → b < m) ∧ w.heap.size + 3 + 1 ≤ m
section
variable {w W W' : World} {g lv blk c : Nat} {v1 v2 : Value} {ns : List ByteArray} {us1 : List Value} {ks : List Kind} {us2 : List Value} {fi2 : List Nat} {l l' : List UInt8} {fail fail' : Bool} {k : Kind} {vs : List Value} {fq : List Nat}
theorem FinJ.ofA (h : KJ w W g lv v1 ns us1 v2 ks us2 fi2 l fail) (hgw : g < w.heap.size) (hg : GB W W' v2 (.slice (some ⟨blk, 0, none⟩) (ks.length + 1) c))
    (hn : OwS W' (w.heap.size + 3 + 1) 38 3 Kind.cells (.slice (some ⟨blk, 0, none⟩) (ks.length + 1) c) (ks ++ [Kind.mk 0 [] []]) (us2 ++ [.int .i64 0, .slice none 0 0, .slice none 0 0]) (fi2 ++ []))
    (ho : OwC W k.cells vs fq) {m : Nat} (hnw : New W fq m) (hm : ∀ b ∈ fi2, b < m) (hm1 : ∀ b, v1.ownBlock = some b → b < m) (hm2 : ∀ b, v2.ownBlock = some b → b < m) (hm0 : w.heap.size + 3 + 1 ≤ m) : FinJ w W' g lv v1 ns us1 v2 blk c ks us2 fi2 l fail k vs fq := by
  refine ⟨h.app hgw hg hn, ho.grown' hg.grown hnw.lt (fun b e => hnw.out (hm2 b e)), m, hnw.grown hg.grown (fun b e => hnw.out (hm2 b e)), hm, ?_, hm1, hm0⟩
  rcases gb_new hg rfl with e2 | e2
  · exact .inl (hm2 blk e2)
  · exact .inr (fun hm => absurd (hnw.lt blk hm) (Nat.not_lt.2 e2))
theorem FinJ.ofC (h : AppJ w W g lv v1 ns us1 v2 blk c ks us2 fi2 l fail) (hgw : g < w.heap.size) (hg : W.grownBy W' (some g)) (hr : RdJ W' g l' fail') (ho : OwC W' k.cells vs fq) (hnw : New W' fq W.heap.size) : FinJ w W' g lv v1 ns us1 v2 blk c ks us2 fi2 l' fail' k vs fq :=
  ⟨h.read hgw hg hr, ho, W.heap.size, hnw, fun b hb => h.two.new.lt b (List.mem_append_left _ hb), .inl (h.two.lt blk rfl), fun b e => h.one.lt b e, Nat.le_trans (Nat.succ_le_of_lt h.box.lt) (Nat.le_refl _)⟩
theorem AppJ.cells (h : AppJ w W g lv v1 ns us1 v2 blk c ks us2 fi2 l fail) : us2.length = ks.length * 3 ∧ blk < W.heap.size ∧ W.cell? ⟨blk, ks.length * 3, none⟩ = some (.int .i64 0) ∧ W.cell? ⟨blk, ks.length * 3 + 1, none⟩ = some (.slice none 0 0) ∧ W.cell? ⟨blk, ks.length * 3 + 2, none⟩ = some (.slice none 0 0) ∧ (∀ j, W.frozen? ⟨blk, j, none⟩ = false) ∧
    W.cell? ⟨w.heap.size + 3, 2, none⟩ = some v2 ∧ W.frozen? ⟨w.heap.size + 3, 2, none⟩ = false ∧ w.heap.size + 3 < W.heap.size ∧ w.heap.size + 3 < blk := by
  have hul : us2.length = ks.length * 3 := by rw [h.pre.length, flat_len Kind.cells 3 Kind.cells_len]
  obtain ⟨_, b, eA, eb1, eb2, eb3, eb4, eb5⟩ := h.two.formG (by rw [List.length_append, List.length_singleton]; omega)
  injection eA with eA
  injection eA with eA
  subst eA
  refine ⟨hul, eb2, eb4 _ _ ?_, eb4 _ _ ?_, eb4 _ _ ?_, eb5, h.box.cell 2, h.box.frozen 2, h.box.lt, by omega⟩
  · rw [List.getElem?_append_right (by omega), hul, Nat.sub_self]; rfl
  · rw [List.getElem?_append_right (by omega), hul, show ks.length * 3 + 1 - ks.length * 3 = 1 by omega]; rfl
  · rw [List.getElem?_append_right (by omega), hul, show ks.length * 3 + 2 - ks.length * 3 = 2 by omega]; rfl
theorem FinJ.done {p q r : Value} (h : FinJ w W g lv v1 ns us1 v2 blk c ks us2 fi2 l fail k [p, q, r] fq) (hgw : g < w.heap.size) :
    KJ w ((((W.setCell ⟨blk, ks.length * 3, none⟩ p).setCell ⟨blk, ks.length * 3 + 1, none⟩ q).setCell ⟨blk, ks.length * 3 + 2, none⟩ r).setCell ⟨w.heap.size + 3, 2, none⟩ (.slice (some ⟨blk, 0, none⟩) (ks.length + 1) c)) g lv v1 ns us1 (.slice (some ⟨blk, 0, none⟩) (ks.length + 1) c) (ks ++ [k]) (us2 ++ [p, q, r]) (fi2 ++ fq) l fail := by
  obtain ⟨m, h1, h2, h3, h4, h5⟩ := h.far
  exact h.app.fin hgw h.app.cells.1 h.kid h1 h2 h3 h4 h5
end
theorem ne_lt3 {a b : Nat} (h : a + 3 < b) : a ≠ b := by omega
theorem ne_lt1 {a b : Nat} (h : a + 3 < b) : a + 1 ≠ b := by omega
theorem SrcAt.ofRow {w : World} {g : Nat} {t : TypeId} {cs : List Value} (h : Row w g t cs) (m c : Nat) : SrcAt w cs (some ⟨g, 0, none⟩) m c :=
  .inr ⟨_, rfl, fun j u hu => by rw [Addr.add_lit, Nat.zero_add, h.cell]; exact hu⟩
def KindRdI (f : Nat) : Prop := ∀ (l : List UInt8) (bad : Bool) (g lv : Nat) (w : World), lv + f = 7 → 1 ≤ lv → RdJ w g l bad →
  Calls Tryz.prog 62 #[.pointer (some ⟨g, 0, none⟩), .int .i64 (lv : Int)] w (KindOut (fun w l b => RdJ w g l b) g lv l bad w)
/-- one part more -/
def PartOut (w : World) (g lv : Nat) (ns : List ByteArray) (ks : List Kind) (l : List UInt8) (e : Ending) (w' : World) : Prop :=
  ∃ (x : ByteArray) (k : Kind) (l2 l' : List UInt8) (b2 b' : Bool) (B1 : Option Addr) (n1 d1 : Nat) (us1' : List Value) (B2 : Option Addr) (n2 d2 : Nat) (us2' : List Value) (fi2' : List Nat), e = .returned (.tuple #[]) ∧
    KJ w w' g lv (.slice B1 n1 d1) (ns ++ [x]) us1' (.slice B2 n2 d2) (ks ++ [k]) us2' fi2' l' b' ∧ x.size ≤ 10000 ∧ NamedJ l false x l2 b2 ∧ Paid (lv + 1) l2 k.bulk l' b' ∧ TakesK (lv + 1) l2 b2 k l' b' ∧ (b' = false → b2 = false)
end Go.Proofs.YtnaecdoeldoipaaGreatDoor
set_option linter.unusedVariables false
set_option linter.unusedSimpArgs false
namespace Go.Proofs.YtnaecdoeldoipaaGreatDoor
open Go.ChangeShapes Go.WideShapes Go.ChangeAt Go.RowKit

theorem setCell_swap (w : World) {a b : Addr} (h : a.block ≠ b.block) (u v : Value) : (w.setCell a u).setCell b v = (w.setCell b v).setCell a u := by
  unfold World.setCell
  congr 1
  apply Array.ext_getElem?
  intro i
  simp only [Array.getElem?_modify]
  by_cases h1 : a.block = i
  · have h2 : ¬ (b.block = i) := fun e => h (h1.trans e.symm)
    simp [h1, h2]
  · by_cases h2 : b.block = i
    · simp [h1, h2]
    · simp [h1, h2]
theorem FinJ.done2 {w W : World} {g lv blk c : Nat} {v1 v2 : Value} {ns : List ByteArray} {us1 : List Value} {ks : List Kind} {us2 : List Value} {fi2 : List Nat} {l : List UInt8} {fail : Bool} {k : Kind} {p q r : Value} {fq : List Nat} (h : FinJ w W g lv v1 ns us1 v2 blk c ks us2 fi2 l fail k [p, q, r] fq) (hgw : g < w.heap.size) :
    KJ w ((((W.setCell ⟨w.heap.size + 3, 2, none⟩ (.slice (some ⟨blk, 0, none⟩) (ks.length + 1) c)).setCell ⟨blk, ks.length * 3, none⟩ p).setCell ⟨blk, ks.length * 3 + 1, none⟩ q).setCell ⟨blk, ks.length * 3 + 2, none⟩ r) g lv v1 ns us1 (.slice (some ⟨blk, 0, none⟩) (ks.length + 1) c) (ks ++ [k]) (us2 ++ [p, q, r]) (fi2 ++ fq) l fail := by
  have hne : w.heap.size + 3 ≠ blk := Nat.ne_of_lt h.app.cells.2.2.2.2.2.2.2.2.2
  rw [setCell_swap W (a := ⟨w.heap.size + 3, 2, none⟩) (b := ⟨blk, ks.length * 3, none⟩) hne, setCell_swap _ (a := ⟨w.heap.size + 3, 2, none⟩) (b := ⟨blk, ks.length * 3 + 1, none⟩) hne, setCell_swap _ (a := ⟨w.heap.size + 3, 2, none⟩) (b := ⟨blk, ks.length * 3 + 2, none⟩) hne]
  exact h.done hgw
set_option maxRecDepth 100000 in
set_option maxHeartbeats 20000000 in
theorem partJ_any {f lv : Nat} (hlf : lv + 1 + f = 7) (hlv : 1 ≤ lv) (ih : KindRdI f) {w wr : World} {g : Nat} (hgw : g < w.heap.size) {B1 : Option Addr} {n1 d1 : Nat} {ns : List ByteArray} {us1 : List Value} {B2 : Option Addr} {n2 d2 : Nat} {ks : List Kind} {us2 : List Value} {fi2 : List Nat} {l : List UInt8} (h : KJ w wr g lv (.slice B1 n1 d1) ns us1 (.slice B2 n2 d2) ks us2 fi2 l false) (hns : ns.length ≤ 100000) (hks : ks.length ≤ 100000) :
    Calls Tryz.prog 114 #[.pointer (some ⟨w.heap.size + 3, 0, none⟩), .pointer (some ⟨w.heap.size, 0, none⟩), .pointer (some ⟨w.heap.size + 1, 0, none⟩)] wr (PartOut w g lv ns ks l) := by
  have H := hide h
  have HI := hide (fun (W : World) (l : List UInt8) (bad : Bool) (h : RdJ W g l bad) => show Calls Tryz.prog 62 #[.pointer (some ⟨g, 0, none⟩), .int .i64 ((lv : Int) + 1)] W (KindOut (fun w l b => RdJ w g l b) g (lv + 1) l bad W) from by
    have h := ih l bad g (lv + 1) W (by omega) (by omega) h
    rw [show ((lv + 1 : Nat) : Int) = (lv : Int) + 1 by omega] at h
    exact h)
  have hwd : IntKind.i64.wrap ((lv : Int) + 1) = (lv : Int) + 1 := wrapI _ (by omega) (by omega)
  obtain ⟨ia, hia, ha0, ha1, ha2⟩ := info_parts info_string
  obtain ⟨ib, hib, hb0, hb1, hb2⟩ := info_parts info_Kind'
  have HIa := hide hia
  have HIb := hide hib
  obtain ⟨E1, e1, hv1⟩ := h.two.one.form
  obtain ⟨E2, e2, hv2⟩ := h.two.two.form
  injection hv1 with hv1a hv1b hv1c
  injection hv2 with hv2a hv2b hv2c
  subst hv1a hv1b hv1c hv2a hv2b hv2c
  clear ih hia hib h
  have t1 : wr.cell? ⟨w.heap.size + 3, 1, none⟩ = some (.slice B1 ns.length d1) := H.out.two.box.cell 1
  have tr : wr.cell? ⟨w.heap.size, 0, none⟩ = some (.pointer (some ⟨g, 0, none⟩)) := H.out.rb.cell 0
  have lq : w.heap.size + 3 < wr.heap.size := H.out.two.box.lt
  have hszA : w.heap.size + 3 + 1 ≤ wr.heap.size := lq
  have lg := H.out.rd.lt
  have HNM := hide (fun (W : World) (h : RdJ W g l false) => nameJ_any h)
  go_enter Tryz.func114, Tryz.ntmps114
  go_upto_region 0 with fail
  go_cut [] from 3 to 9 (fun wx => ∃ (x : ByteArray) (l2 : List UInt8) (b2 : Bool) (C1 : Option Addr) (p1 q1 : Nat) (us1' : List Value), KJ w wx g lv (.slice C1 p1 q1) (ns ++ [x]) us1' (.slice B2 ks.length d2) ks us2 fi2 l2 b2 ∧ NamedJ l false x l2 b2 ∧ x.size ≤ 10000)
  case first =>
    go_region_law (first | (refine step_app (by rfl) _ _ 23 (by rfl) ia _ 16 Tryz.underlying23 HIa.out ha0 ha1 ha2 rfl (by decide) strC_len (by rfl) HT7.out.two.one [x] (HDS.out _) (by exact New.nil _ _) (fun g _ hg => by cases hg) _ 1 1 (by rfl) rfl (SrcAt.new w6 _ _ _ _) (by omega) (by decide) HSB.out ?_; intro A' n' c' w8 hn8 hown8 hgb8; have HG8 := hide hgb8; have HN8 := hide hown8; have r8 := HT7.out.two.row1 hgb8; have q8 : w8.cell? ⟨w.heap.size + 3, 1, none⟩ = some (.slice B1 ns.length d1) := r8.cell 1; have f8 : w8.frozen? ⟨w.heap.size + 3, 1, none⟩ = false := r8.frozen 1; clear hown8 hgb8 r8 hn8) | (go_simp; go_at_call 102; have hh := HNM.out wr.drew (H.out.rd.drewN 1); refine hh.mono ?_; clear hh; rintro e w6 ⟨x, l6, b6, rfl, hs6, hr6, hnm6, hg6⟩; have HNM6 := hide hnm6; have HT6 := hide ((H.out.drewN 1).read hgw hg6 hr6); have t1c : w6.cell? ⟨w.heap.size + 3, 1, none⟩ = some (.slice B1 ns.length d1) := HT6.out.two.box.cell 1; have lt6 := HT6.out.two.box.lt; have HT7 := hide (HT6.out.alloc hgw (.cells #[.string x] 9)); have HSB := hide (show w.heap.size + 3 + 1 ≤ (w6.alloc (.cells #[.string x] 9)).heap.size from by rw [World.size_alloc]; omega); have HDS := hide (fun W => show OwC W ([x].flatMap strC) [.string x] [] from ⟨[], [], ⟨rfl, show x.size ≤ maxLen by (unfold maxLen; omega), rfl⟩, rfl, rfl⟩); clear hr6 hg6 hnm6))
    all_goals
      go_wp2_with fail
      go_meet
      exact ⟨x, l6, b6, A', n', c', us1 ++ [.string x], HT7.out.put hgw (HT7.out.two.frame1 HG8.out HSB.out 1 _ (Nat.le_refl _)) (HT7.out.two.put1 HG8.out HN8.out 1 rfl (fun g hg => by cases hg)), HNM6.out, hs6⟩
  case rest =>
    obtain ⟨x, l2, b2, C1, p1, q1, us1', hK, hnm, hxs⟩ := hcut
    have HK := hide hK
    have HNMc := hide hnm
    have t2 : wc.cell? ⟨w.heap.size + 3, 2, none⟩ = some (.slice B2 ks.length d2) := hK.two.box.cell 2
    have tr : wc.cell? ⟨w.heap.size, 0, none⟩ = some (.pointer (some ⟨g, 0, none⟩)) := hK.rb.cell 0
    have tl : wc.cell? ⟨w.heap.size + 1, 0, none⟩ = some (.int .i64 (lv : Int)) := hK.lb.cell 0
    have lq : w.heap.size + 3 < wc.heap.size := hK.two.box.lt
    have lg := hK.rd.lt
    have hidx : (ks.length : Int) < (ks.length : Int) + 1 := by omega
    clear hK hnm t1 HNM H hszA
    have HM2 := hide (show ∀ b ∈ fi2, b < wc.heap.size from HK.out.two.two.new.lt)
    have HM3 := hide (show ∀ b, (Value.slice C1 p1 q1).ownBlock = some b → b < wc.heap.size from fun b e => HK.out.two.one.lt b e)
    have HM4 := hide (show ∀ b, (Value.slice B2 ks.length d2).ownBlock = some b → b < wc.heap.size from fun b e => HK.out.two.two.lt b e)
    have HM5 := hide (show w.heap.size + 3 + 1 ≤ wc.heap.size from lq)
    have HXO := hide (fun (W : World) => show OwC W ([Kind.mk 0 [] []].flatMap Kind.cells) [.int .i64 0, .slice none 0 0, .slice none 0 0] [] from by rw [List.flatMap_singleton]; exact kleaf_ow _ 0 (by decide))
    have HNA := hide (fun (W : World) (h : New W fi2 (w.heap.size + 3 + 1)) => show New W (fi2 ++ []) (w.heap.size + 3 + 1) from by rw [List.append_nil]; exact h)
    have HNO := hide (show ∀ g, (Value.slice B2 ks.length d2).ownBlock = some g → g ∉ ([] : List Nat) from fun g _ hm => by cases hm)
    have HLB := hide (show ks.length + 1 ≤ 1099511627776 from by omega)
    have HKc := hide (show KJ w (wc.alloc (.cells #[.int .i64 0, .slice none 0 0, .slice none 0 0] 38)).drew g lv (.slice C1 p1 q1) (ns ++ [x]) us1' (.slice B2 ks.length d2) ks us2 fi2 l2 b2 from (HK.out.alloc hgw (.cells #[.int .i64 0, .slice none 0 0, .slice none 0 0] 38)).drewN 1)
    have HRc := hide (show Row (wc.alloc (.cells #[.int .i64 0, .slice none 0 0, .slice none 0 0] 38)).drew wc.heap.size 38 [.int .i64 0, .slice none 0 0, .slice none 0 0] from (Row.new wc _ _).drewN 1)
    have HSBc := hide (show w.heap.size + 3 + 1 ≤ (wc.alloc (.cells #[.int .i64 0, .slice none 0 0, .slice none 0 0] 38)).drew.heap.size from by show _ ≤ (wc.alloc (.cells #[.int .i64 0, .slice none 0 0, .slice none 0 0] 38)).heap.size; rw [World.size_alloc]; omega)
    have lq0 : w.heap.size < wc.heap.size := by omega
    have hb0x : w.heap.size ≠ w.heap.size + 3 := by omega
    have hb1x : w.heap.size + 1 ≠ w.heap.size + 3 := by omega
    have lq1 : w.heap.size + 1 < wc.heap.size := by omega
    go_wp2
    go_region_law (first | (refine step_app (by rfl) _ _ 36 (by rfl) ib _ 56 Tryz.underlying36 HIb.out hb0 hb1 hb2 rfl (by decide) Kind.cells_len (by rfl) HT7.out.two.two [Kind.mk 0 [] []] (HXO.out _) (HNA.out _ HT7.out.two.two.new) HNO.out _ 1 1 (by rfl) rfl (SrcAt.new w6 _ _ _ _) HLB.out (by decide) HSB.out ?_; intro A' n' c' w8 hn8 hown8 hgb8; obtain ⟨en, blk, eA, -, -, -, -, -⟩ := hown8.formG (by rw [List.length_append, List.length_singleton]; omega); rw [List.length_append, List.length_singleton] at en; subst en eA; have HG8 := hide hgb8; have HN8 := hide hown8; clear hown8 hgb8 hn8; have HFIN := hide (FinJ.ofA HT7.out hgw HG8.out HN8.out HO7.out HN7.out HM2.out HM3.out HM4.out HM5.out); obtain ⟨cu, cb, z0, z1, z2, cf, q8, f8, cl, cx⟩ := HFIN.out.app.cells; have y0 := cf (ks.length * 3); have y1 := cf (ks.length * 3 + 1); have y2 := cf (ks.length * 3 + 2); clear cf cu; have hx0 := ne_lt3 cx; have hx1 := ne_lt1 cx) | (refine step_app (by rfl) _ _ 36 (by rfl) ib _ 56 Tryz.underlying36 HIb.out hb0 hb1 hb2 rfl (by decide) Kind.cells_len (by rfl) HT6b.out.two.two [Kind.mk 0 [] []] (HXO.out _) (HNA.out _ HT6b.out.two.two.new) HNO.out _ 1 1 (by rfl) rfl (SrcAt.ofRow HRb.out _ _) HLB.out (by decide) HSBb.out ?_; intro A' n' c' w8 hn8 hown8 hgb8; obtain ⟨en, blk, eA, -, -, -, -, -⟩ := hown8.formG (by rw [List.length_append, List.length_singleton]; omega); rw [List.length_append, List.length_singleton] at en; subst en eA; have HG8 := hide hgb8; have HN8 := hide hown8; clear hown8 hgb8 hn8; have HFIN := hide (FinJ.ofA HT6b.out hgw HG8.out HN8.out HO6.out HN6.out HM2.out HM3.out HM4.out HM5.out); obtain ⟨cu, cb, z0, z1, z2, cf, q8, f8, cl, cx⟩ := HFIN.out.app.cells; have y0 := cf (ks.length * 3); have y1 := cf (ks.length * 3 + 1); have y2 := cf (ks.length * 3 + 2); clear cf cu; have hx0 := ne_lt3 cx; have hx1 := ne_lt1 cx) | (refine step_app (by rfl) _ _ 36 (by rfl) ib _ 56 Tryz.underlying36 HIb.out hb0 hb1 hb2 rfl (by decide) Kind.cells_len (by rfl) HKc.out.two.two [Kind.mk 0 [] []] (HXO.out _) (HNA.out _ HKc.out.two.two.new) HNO.out _ 1 1 (by rfl) rfl (SrcAt.ofRow HRc.out _ _) HLB.out (by decide) HSBc.out ?_; intro A' n' c' w8 hn8 hown8 hgb8; obtain ⟨en, blk, eA, -, -, -, -, -⟩ := hown8.formG (by rw [List.length_append, List.length_singleton]; omega); rw [List.length_append, List.length_singleton] at en; subst en eA; have HG8 := hide hgb8; have HN8 := hide hown8; clear hown8 hgb8 hn8; have HAPPc := hide (HKc.out.app hgw HG8.out HN8.out); obtain ⟨cu, cb, z0, z1, z2, cf, q8, f8, cl, cx⟩ := HAPPc.out.cells; have y0 := cf (ks.length * 3); have y1 := cf (ks.length * 3 + 1); have y2 := cf (ks.length * 3 + 2); clear cf cu; have hx0 := ne_lt3 cx; have hx1 := ne_lt1 cx) | (go_simp; go_at_call 62; have hh := HI.out w8 l2 b2 HAPPc.out.rd; refine hh.mono ?_; clear hh; rintro e w6 ⟨k, us6, fq6, l6, b6, rfl, ho6, hn6, hr6, hg6, hp6, ht6, hb6⟩; have HP6 := hide hp6; have HTK6 := hide ht6; have HB6 := hide hb6; obtain ⟨F1, g1, F2, g2, j1, j2, rfl, k0, k1, k2, efq⟩ := ho6.oKind; have HO6 := hide ho6; have HFIN := hide (FinJ.ofC HAPPc.out hgw hg6 hr6 ho6 hn6); clear HAPPc z0 z1 z2 q8 f8 cl cx cb y0 y1 y2; obtain ⟨cu, cb, z0, z1, z2, cf, q8, f8, cl, cx⟩ := HFIN.out.app.cells; have y0 := cf (ks.length * 3); have y1 := cf (ks.length * 3 + 1); have y2 := cf (ks.length * 3 + 2); clear cf cu; have hx0 := ne_lt3 cx; have hx1 := ne_lt1 cx; clear ho6 hn6 hr6 hg6 hp6 ht6 hb6 k1 k2 efq) | (go_simp; go_at_call 62; (with_reducible show Calls _ _ _ (World.drew (World.alloc wc _)) _); have hh := HI.out (wc.alloc (.cells #[.int .i64 0, .slice none 0 0, .slice none 0 0] 38)).drew l2 b2 HKc.out.rd; refine hh.mono ?_; clear hh; rintro e w6 ⟨k, us6, fq6, l6, b6, rfl, ho6, hn6, hr6, hg6, hp6, ht6, hb6⟩; have HP6 := hide hp6; have HTK6 := hide ht6; have HB6 := hide hb6; obtain ⟨F1, g1, F2, g2, j1, j2, rfl, k0, k1, k2, efq⟩ := ho6.oKind; have HO6 := hide ho6; have HN6 := hide (show New w6 fq6 wc.heap.size from (show New w6 fq6 (wc.alloc (.cells #[.int .i64 0, .slice none 0 0, .slice none 0 0] 38)).heap.size from hn6).mono (by rw [World.size_alloc]; omega)); have HT6b := hide (HKc.out.read hgw hg6 hr6); have HRb := hide (HRc.out.grown hg6 (fun e => by injection e with e; omega)); have t2c : w6.cell? ⟨w.heap.size + 3, 2, none⟩ = some (.slice B2 ks.length d2) := HT6b.out.two.box.cell 2; have lt6 := HT6b.out.two.box.lt; have HSBb := hide (show w.heap.size + 3 + 1 ≤ w6.heap.size from lt6); clear ho6 hn6 hr6 hg6 hp6 ht6 hb6 k1 k2 efq) | (go_simp; go_at_call 62; (with_reducible show Calls _ _ _ wc.drew _); have hh := HI.out wc.drew l2 b2 (HK.out.rd.drewN 1); refine hh.mono ?_; clear hh; rintro e w6 ⟨k, us6, fq6, l6, b6, rfl, ho6, hn6, hr6, hg6, hp6, ht6, hb6⟩; have HP6 := hide hp6; have HTK6 := hide ht6; have HB6 := hide hb6; obtain ⟨F1, g1, F2, g2, j1, j2, rfl, k0, k1, k2, efq⟩ := ho6.oKind; have HO6 := hide ho6; have HN6 := hide (show New w6 fq6 wc.heap.size from hn6); have HT6 := hide ((HK.out.drewN 1).read hgw hg6 hr6); have HT7 := hide (HT6.out.alloc hgw (.cells #[.int .i64 0, .slice none 0 0, .slice none 0 0] 38)); have HO7 := hide (HO6.out.alloc HN6.out.lt (.cells #[.int .i64 0, .slice none 0 0, .slice none 0 0] 38)); have HN7 := hide (HN6.out.alloc (.cells #[.int .i64 0, .slice none 0 0, .slice none 0 0] 38)); have t2c : w6.cell? ⟨w.heap.size + 3, 2, none⟩ = some (.slice B2 ks.length d2) := HT6.out.two.box.cell 2; have lt6 := HT6.out.two.box.lt; have HSB := hide (show w.heap.size + 3 + 1 ≤ (w6.alloc (.cells #[.int .i64 0, .slice none 0 0, .slice none 0 0] 38)).heap.size from by rw [World.size_alloc]; omega); clear ho6 hn6 hr6 hg6 hp6 ht6 hb6 k1 k2 efq))
    all_goals
      go_wp2
      go_end0
      have HX := hide (fun (W : World) (hK : KJ w W g lv (.slice C1 p1 q1) (ns ++ [x]) us1' (.slice (some ⟨blk, 0, none⟩) (ks.length + 1) c') (ks ++ [k]) (us2 ++ [.int .i64 k.sort, .slice F1 k.names.length g1, .slice F2 k.kids.length g2]) (fi2 ++ fq6) l6 b6) => show PartOut w g lv ns ks l (.returned (.tuple #[])) W from
        ⟨x, k, l2, l6, b2, b6, C1, p1, q1, us1', some ⟨blk, 0, none⟩, ks.length + 1, c', _, _, rfl, hK, hxs, HNMc.out, HP6.out, HTK6.out, HB6.out⟩)
      first
        | exact HX.out _ (HFIN.out.done hgw)
        | exact HX.out _ (HFIN.out.done2 hgw)
end Go.Proofs.YtnaecdoeldoipaaGreatDoor
