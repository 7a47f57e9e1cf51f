/-
  Slices of bytes that a call makes by append: what they hold, and what appends do to them.
-/
import Derived.Test.YtnaecdoeldoipaaGreatDoorOwn
import Derived.Lib.AppendStr
import Derived.Lib.ConvBytes
import Derived.Laws.IdiomStrings
set_option linter.unusedVariables false
set_option linter.unusedSimpArgs false
namespace Go.Proofs.YtnaecdoeldoipaaGreatDoor
open Go.ChangeShapes Go.WideShapes Go.ChangeAt Go.RowKit

def u8s (bs : List UInt8) : List Value := bs.map fun b => Value.int .u8 (b.toNat : Int)
theorem u8s_len (bs : List UInt8) : (u8s bs).length = bs.length := by simp [u8s]
theorem u8s_app (a b : List UInt8) : u8s (a ++ b) = u8s a ++ u8s b := by simp [u8s]
theorem u8s_one (bs : List UInt8) : ∀ u ∈ u8s bs, u.oneCell' = true := fun u hu => by
  simp only [u8s, List.mem_map] at hu
  obtain ⟨b, _, rfl⟩ := hu
  rfl
/-- A slice of bytes of the call's own, from B on. -/
def Byt (w : World) (B : Nat) (v : Value) (bs : List UInt8) : Prop := w.ownsRow B 5 1 v bs.length (u8s bs)
/-- What stays: all below B, and all rows that are not of bytes. -/
structure KB (B : Nat) (w w' : World) : Prop where
  below : Below B w w'
  rows : ∀ g e cs, Row w g e cs → e ≠ 5 → Row w' g e cs

section
variable {w w' w1 w2 : World} {B : Nat} {v v' : Value} {bs : List UInt8}
theorem KB.refl (B : Nat) (w : World) : KB B w w := ⟨Below.refl _ _, fun _ _ _ h _ => h⟩
theorem KB.trans (h : KB B w w1) (k : KB B w1 w2) : KB B w w2 := ⟨h.below.trans k.below, fun g e cs hr he => k.rows g e cs (h.rows g e cs hr he) he⟩
theorem KB.of (hB : B ≤ w.heap.size) (hb : Below w.heap.size w w') : KB B w w' := ⟨hb.mono hB, fun g e cs hr _ => hr.below hb hr.lt⟩
theorem KB.alloc (h : KB B w w1) (hB : B ≤ w1.heap.size) (o : Obj) : KB B w (w1.alloc o) := h.trans (KB.of hB ((Below.refl _ _).alloc (Nat.le_refl _) o))
theorem Byt.ne (h : Byt w B v bs) {g : Nat} {e : TypeId} {cs : List Value} (hr : Row w g e cs) (he : e ≠ 5) : v.ownBlock ≠ some g := fun hv => by
  rcases h.2 with ⟨rfl, _⟩ | ⟨g', cap, cur, rfl, _, hg, _⟩
  · cases hv
  · simp only [Value.ownBlock, Option.some.injEq] at hv
    subst hv
    unfold Row at hr
    rw [hg] at hr
    injection hr with hr
    injection hr with _ hr _
    exact he hr.symm
theorem KB.grown (h : Byt w B v bs) (hg : w.grownBy w' v.ownBlock) (hB : B ≤ w.heap.size) : KB B w w' :=
  ⟨⟨hg.os, hg.tape, hg.output, hg.size, fun i hi => hg.block i (by omega) (fun e => by have := (World.ownsRow.lt h i e.symm).1; omega)⟩, fun g e cs hr he => (hg.block g hr.lt (h.ne hr he).symm).trans hr⟩
theorem Byt.nil (w : World) (B : Nat) : Byt w B (.slice none 0 0) [] := World.ownsRow_nil _ _ _ _
theorem Byt.below (h : Byt w B v bs) (hb : Below w.heap.size w w') : Byt w' B v bs := ownsRow_below h hb
theorem Byt.alloc (h : Byt w B v bs) (o : Obj) : Byt (w.alloc o) B v bs := h.below ((Below.refl _ _).alloc (Nat.le_refl _) o)
theorem Byt.mono {C : Nat} (h : Byt w B v bs) (hC : C ≤ B) : Byt w C v bs := by
  refine ⟨h.1, ?_⟩
  rcases h.2 with hn | ⟨g, cap, cur, hv, hB, rest⟩
  · exact .inl hn
  · exact .inr ⟨g, cap, cur, hv, by omega, rest⟩
theorem Byt.new (w : World) (b : UInt8) : Byt (w.alloc (.cells #[.int .u8 (b.toNat : Int)] 5)) w.heap.size (.slice (some ⟨w.heap.size, 0, none⟩) 1 1) [b] :=
  ⟨rfl, .inr ⟨_, 1, _, rfl, Nat.le_refl _, heap_alloc_new w _, Nat.le_refl _, by decide, rfl, rfl⟩⟩
theorem u8s_cells : ∀ (bs : List UInt8) (w : World), OwC w (bs.flatMap byteC) (u8s bs) []
  | [], w => by simp [OwC, u8s]
  | b :: r, w => ⟨[], [], ⟨rfl, by
      have h := b.toNat_lt
      show (Lit.int .u8 (b.toNat : Int)).wf = true
      simp [Lit.wf, IntKind.min, IntKind.max, IntKind.signed, IntKind.bits]
      omega, rfl⟩, u8s_cells r w, rfl⟩
theorem Byt.toOw (h : Byt w B v bs) : ∃ fp, Ow w (.s 1 bs.length (bs.flatMap byteC)) v fp ∧ New w fp B :=
  OwS.toOw (f := byteC) ⟨h, u8s_cells bs w, New.nil _ _, fun g _ => by simp⟩
theorem Byt.form (h : Byt w B v bs) (hn : bs ≠ []) : ∃ g c, v = .slice (some ⟨g, 0, none⟩) bs.length c ∧ ∀ j u, (u8s bs)[j]? = some u → w.cell? ((⟨g, 0, none⟩ : Addr).add j) = some u := by
  rcases h.2 with ⟨_, h0⟩ | ⟨g, cap, cur, hv, _⟩
  · exact absurd (List.eq_nil_of_length_eq_zero h0) hn
  · subst hv
    exact ⟨g, cap, rfl, h.cells (g := g) rfl⟩
end

/-- a list of bytes as a text -/
def ba (l : List UInt8) : ByteArray := ⟨l.toArray⟩
theorem ba_app (a b : List UInt8) : ba (a ++ b) = ba a ++ ba b := by
  apply bytes_inj
  simp [ba]
theorem ba_size (l : List UInt8) : (ba l).size = l.length := by simp [ba, ByteArray.size]
theorem Byt.conv {w : World} {B : Nat} {v : Value} {bs : List UInt8} (h : Byt w B v bs) (hn : bs ≠ []) : (convert 22 9 v).run Tryz.prog w = .ok (.string (ba bs)) w := by
  obtain ⟨g, c, rfl, hc⟩ := h.form hn
  refine run_convert_bytes_back w 22 9 5 ⟨g, 0, none⟩ c bs Tryz.underlying22 Tryz.underlying5 Tryz.underlying9 (fun j hj => hc j _ ?_)
  simp [u8s, List.getElem?_eq_getElem hj]
section
variable {ops : Array Oper} {rest : List Oper} {o : Oper} {a : Act} {Q : Exit → Act → World → Prop} (w : World)
theorem wpl_bytes (hgd : o.guard = none) (s x : Operand) (ho : o.op = .call { callee := .builtin .append, args := #[s, x], argTypes := #[22, 22] })
    (B C : Nat) (v v2 : Value) (bs ys : List UInt8) (hs : a.eval s = v) (hown : Byt w B v bs) (hx : a.eval x = v2) (h2 : Byt w C v2 ys) (hn : ys ≠ []) (hl : bs.length + ys.length ≤ 1099511627776) (hB : B ≤ w.heap.size)
    (h : ∀ v' w', Byt w' B v' (bs ++ ys) → KB B w w' → wpList Tryz.prog ops Q rest (a.put o.dst v') w') : wpList Tryz.prog ops Q (o :: rest) a w := by
  obtain ⟨i0, hi, hz0, hz1, hz2⟩ := info_parts (show (Tryz.prog.info? 5).map (fun i => (i.zero, i.size, i.bytes)) = some (some (.int .u8 0), 1, 1) by kernel_rfl)
  obtain ⟨g, c, rfl, hc⟩ := h2.form hn
  refine wpList_append_own_at w hgd s x 22 ho B 5 i0 (.int .u8 0) 1 1 Tryz.underlying22 hi hz0 hz1 hz2 rfl (by decide) v bs.length (u8s bs) hs hown ⟨g, 0, none⟩ ys.length c (u8s ys) hx (by rw [u8s_len]; omega) hc (u8s_one ys) (by unfold maxLen; omega) (by omega) hB ?_
  intro v' w' hown' hgrow _ _
  refine h v' w' ?_ (KB.grown hown hgrow hB)
  unfold Byt
  rw [u8s_app, List.length_append]
  exact hown'
theorem wpl_cells (hgd : o.guard = none) (s x : Operand) (ho : o.op = .call { callee := .builtin .append, args := #[s, x], argTypes := #[22, 22] })
    (B : Nat) (v : Value) (bs ys : List UInt8) (hs : a.eval s = v) (hown : Byt w B v bs) (g n c : Nat) (hx : a.eval x = .slice (some ⟨g, 0, none⟩) n c) (hn : n = ys.length) (hc : ∀ j u, (u8s ys)[j]? = some u → w.cell? ((⟨g, 0, none⟩ : Addr).add j) = some u) (hl : bs.length + ys.length ≤ 1099511627776) (hB : B ≤ w.heap.size)
    (h : ∀ v' w', Byt w' B v' (bs ++ ys) → KB B w w' → wpList Tryz.prog ops Q rest (a.put o.dst v') w') : wpList Tryz.prog ops Q (o :: rest) a w := by
  subst hn
  obtain ⟨i0, hi, hz0, hz1, hz2⟩ := info_parts (show (Tryz.prog.info? 5).map (fun i => (i.zero, i.size, i.bytes)) = some (some (.int .u8 0), 1, 1) by kernel_rfl)
  refine wpList_append_own_at w hgd s x 22 ho B 5 i0 (.int .u8 0) 1 1 Tryz.underlying22 hi hz0 hz1 hz2 rfl (by decide) v bs.length (u8s bs) hs hown ⟨g, 0, none⟩ ys.length c (u8s ys) hx (by rw [u8s_len]; omega) hc (u8s_one ys) (by unfold maxLen; omega) (by omega) hB ?_
  intro v' w' hown' hgrow _ _
  refine h v' w' ?_ (KB.grown hown hgrow hB)
  unfold Byt
  rw [u8s_app, List.length_append]
  exact hown'
theorem wpl_push (hgd : o.guard = none) (s x : Operand) (ho : o.op = .call { callee := .builtin .append, args := #[s, x], argTypes := #[22, 22] })
    (B : Nat) (v : Value) (bs : List UInt8) (hs : a.eval s = v) (hown : Byt w B v bs) (g c : Nat) (b : UInt8) (z : Int) (hz : z = (b.toNat : Int)) (hx : a.eval x = .slice (some ⟨g, 0, none⟩) 1 c) (hc : w.cell? ⟨g, 0, none⟩ = some (.int .u8 z)) (hl : bs.length + 1 ≤ 1099511627776) (hB : B ≤ w.heap.size)
    (h : ∀ v' w', Byt w' B v' (bs ++ [b]) → KB B w w' → wpList Tryz.prog ops Q rest (a.put o.dst v') w') : wpList Tryz.prog ops Q (o :: rest) a w := by
  subst hz
  obtain ⟨i0, hi, hz0, hz1, hz2⟩ := info_parts (show (Tryz.prog.info? 5).map (fun i => (i.zero, i.size, i.bytes)) = some (some (.int .u8 0), 1, 1) by kernel_rfl)
  refine wpList_append_own_at w hgd s x 22 ho B 5 i0 (.int .u8 0) 1 1 Tryz.underlying22 hi hz0 hz1 hz2 rfl (by decide) v bs.length (u8s bs) hs hown ⟨g, 0, none⟩ 1 c (u8s [b]) hx rfl ?_ (u8s_one [b]) (by unfold maxLen; omega) (by omega) hB ?_
  · intro j u hj
    match j, hj with
    | 0, hj => simp [u8s] at hj; subst hj; simpa [Addr.add] using hc
  intro v' w' hown' hgrow _ _
  refine h v' w' ?_ (KB.grown hown hgrow hB)
  unfold Byt
  rw [u8s_app, List.length_append]
  exact hown'
theorem wpl_push1 (z : Int) (hgd : o.guard = none) (s x : Operand) (ho : o.op = .call { callee := .builtin .append, args := #[s, x], argTypes := #[22, 22] })
    (B : Nat) (v : Value) (bs : List UInt8) (hs : a.eval s = v) (hown : Byt w B v bs) (b : UInt8) (g : Nat) (hx : a.eval x = .slice (some ⟨g, 0, none⟩) 1 1) (hg : g = w.heap.size) (hz : z = (b.toNat : Int)) (hl : bs.length + 1 ≤ 1099511627776) (hB : B ≤ w.heap.size)
    (h : ∀ v' w', Byt w' B v' (bs ++ [b]) → KB B w w' → wpList Tryz.prog ops Q rest (a.put o.dst v') w') : wpList Tryz.prog ops Q (o :: rest) a (w.alloc (.cells #[.int .u8 z] 5)) := by
  subst hg
  refine wpl_push _ hgd s x ho B v bs hs (hown.alloc _) w.heap.size 1 b z hz hx (by simp) hl (by simp; omega) (fun v' w' h1 h2 => h v' w' h1 (((KB.refl B w).alloc hB _).trans h2))
theorem wpl_push2 (z1 z2 : Int) (hgd : o.guard = none) (s x : Operand) (ho : o.op = .call { callee := .builtin .append, args := #[s, x], argTypes := #[22, 22] })
    (B : Nat) (v : Value) (bs : List UInt8) (hs : a.eval s = v) (hown : Byt w B v bs) (b1 b2 : UInt8) (g : Nat) (hx : a.eval x = .slice (some ⟨g, 0, none⟩) 2 2) (hg : g = w.heap.size) (hz1 : z1 = (b1.toNat : Int)) (hz2 : z2 = (b2.toNat : Int)) (hl : bs.length + 2 ≤ 1099511627776) (hB : B ≤ w.heap.size)
    (h : ∀ v' w', Byt w' B v' (bs ++ [b1, b2]) → KB B w w' → wpList Tryz.prog ops Q rest (a.put o.dst v') w') : wpList Tryz.prog ops Q (o :: rest) a (w.alloc (.cells #[.int .u8 z1, .int .u8 z2] 5)) := by
  subst hg hz1 hz2
  refine wpl_cells _ hgd s x ho B v bs [b1, b2] hs (hown.alloc _) w.heap.size 2 2 hx rfl ?_ hl (by simp; omega) (fun v' w' h1 h2 => h v' w' h1 (((KB.refl B w).alloc hB _).trans h2))
  intro j u hj
  have hr := Row.new w 5 [.int .u8 (b1.toNat : Int), .int .u8 (b2.toNat : Int)]
  have hadd : (⟨w.heap.size, 0, none⟩ : Addr).add j = ⟨w.heap.size, j, none⟩ := by unfold Addr.add; split <;> simp_all
  rw [hadd]
  exact (hr.cell j).trans hj
theorem wpl_push2G (z1 z2 : Int) (hgd : o.guard = none) (s x : Operand) (ho : o.op = .call { callee := .builtin .append, args := #[s, x], argTypes := #[22, 22] })
    (B : Nat) (v : Value) (bs : List UInt8) (hs : a.eval s = v) (hown : Byt w B v bs) (b1 b2 : UInt8) (g : Nat) (hx : a.eval x = .slice (some ⟨g, 0, none⟩) 2 2) (hg : g = w.heap.size) (hz1 : z1 = (b1.toNat : Int)) (hz2 : z2 = (b2.toNat : Int)) (hl : bs.length + 2 ≤ 1099511627776) (hB : B ≤ w.heap.size)
    (h : ∀ v' w', Byt w' B v' (bs ++ [b1, b2]) → KB B w w' → (∀ g, g < w.heap.size → v.ownBlock ≠ some g → w'.heap[g]? = w.heap[g]?) → wpList Tryz.prog ops Q rest (a.put o.dst v') w') : wpList Tryz.prog ops Q (o :: rest) a (w.alloc (.cells #[.int .u8 z1, .int .u8 z2] 5)) := by
  subst hg hz1 hz2
  obtain ⟨i0, hi, hz0, hz1, hz2⟩ := info_parts (show (Tryz.prog.info? 5).map (fun i => (i.zero, i.size, i.bytes)) = some (some (.int .u8 0), 1, 1) by kernel_rfl)
  refine wpList_append_own_at _ hgd s x 22 ho B 5 i0 (.int .u8 0) 1 1 Tryz.underlying22 hi hz0 hz1 hz2 rfl (by decide) v bs.length (u8s bs) hs (hown.alloc _) ⟨w.heap.size, 0, none⟩ 2 2 (u8s [b1, b2]) hx rfl ?_ (u8s_one _) (by unfold maxLen; omega) (by omega) (by simp; omega) ?_
  · intro j u hj
    have hr := Row.new w 5 [.int .u8 (b1.toNat : Int), .int .u8 (b2.toNat : Int)]
    have hadd : (⟨w.heap.size, 0, none⟩ : Addr).add j = ⟨w.heap.size, j, none⟩ := by unfold Addr.add; split <;> simp_all
    rw [hadd]
    exact (hr.cell j).trans hj
  intro v' w' hown' hgrow _ _
  refine h v' w' ?_ (((KB.refl B w).alloc hB _).trans (KB.grown (hown.alloc _) hgrow (by simp; omega))) (fun g hg hne => ?_)
  · unfold Byt
    rw [u8s_app, List.length_append]
    exact hown'
  · exact (hgrow.block g (by simp; omega) (fun e => hne e.symm)).trans (Below.heap_alloc w _ g hg)
theorem wpl_str (hgd : o.guard = none) (s x : Operand) (ho : o.op = .call { callee := .builtin .append, args := #[s, x], argTypes := #[22, 9] })
    (B : Nat) (v : Value) (bs : List UInt8) (hs : a.eval s = v) (hown : Byt w B v bs) (t : ByteArray) (hx : a.eval x = .string t) (hl : bs.length + t.size ≤ 1099511627776) (hB : B ≤ w.heap.size)
    (h : ∀ v' w', Byt w' B v' (bs ++ t.data.toList) → KB B w w' → wpList Tryz.prog ops Q rest (a.put o.dst v') w') : wpList Tryz.prog ops Q (o :: rest) a w := by
  obtain ⟨i0, hi, hz0, hz1, hz2⟩ := info_parts (show (Tryz.prog.info? 5).map (fun i => (i.zero, i.size, i.bytes)) = some (some (.int .u8 0), 1, 1) by kernel_rfl)
  refine Lib.wpList_append_own_string w hgd s x 22 9 ho B 5 i0 Tryz.underlying22 Tryz.underlying9 hi hz0 hz1 hz2 v bs.length (u8s bs) hs hown t hx (by unfold maxLen; omega) (by omega) hB ?_
  intro v' w' hown' hgrow _
  refine h v' w' ?_ (KB.grown hown hgrow hB)
  unfold Byt
  rw [u8s_app, List.length_append, show t.data.toList.length = t.size from by rw [Array.length_toList]; rfl]
  exact hown'
end
theorem cells_keep {w w' : World} {g : Nat} (h : w'.heap[g]? = w.heap[g]?) (j : Nat) : w'.cell? ((⟨g, 0, none⟩ : Addr).add j) = w.cell? ((⟨g, 0, none⟩ : Addr).add j) := by
  have hadd : (⟨g, 0, none⟩ : Addr).add j = ⟨g, j, none⟩ := by unfold Addr.add; split <;> simp_all
  rw [hadd]
  exact World.cell?_of_block (a := ⟨g, j, none⟩) h
theorem Byt.lt {w : World} {B : Nat} {v : Value} {bs : List UInt8} (h : Byt w B v bs) : ∀ g, v.ownBlock = some g → g < w.heap.size := fun g hg => (World.ownsRow.lt h g hg).2
theorem bytes_part {w W : World} {L : List UInt8} {A : Option Addr} {c : Nat} {fp : List Nat} {g : Nat} (ho : Ow w (.s 1 L.length (L.flatMap byteC)) (.slice A L.length c) fp) (hfp : Lt fp g) (hb : Below g w W) (n m : Nat) (h : n + m ≤ L.length) (hL : 0 < L.length) :
    ∃ gb off, A = some ⟨gb, off, none⟩ ∧ gb < g ∧ ((L.drop n).take m).length = m ∧ ∀ j (hj : j < ((L.drop n).take m).length), W.cell? ⟨gb, off + n + j, none⟩ = some (.int .u8 (((L.drop n).take m)[j].toNat : Int)) := by
  obtain ⟨gb, off, rfl, hgm, hcell, -⟩ := bytes_at ho hL
  refine ⟨gb, off, rfl, hfp gb hgm, by simp; omega, fun j hj => ?_⟩
  have hj' : n + j < L.length := by simp at hj; omega
  obtain ⟨gb', off', e, hgm', hcell', -⟩ := bytes_at ho hj'
  injection e with e
  injection e with e1 e2 e3
  subst e1 e2
  rw [Nat.add_assoc, (hb.cell (p := ⟨gb, off + (n + j), none⟩) (hfp gb hgm)).trans hcell']
  simp
theorem bytes_mk {W : World} {gb o c : Nat} {xs : List UInt8} (hc : ∀ j (hj : j < xs.length), W.cell? ⟨gb, o + j, none⟩ = some (.int .u8 (xs[j].toNat : Int))) (hcap : xs.length ≤ c) (hm : c ≤ maxLen) :
    ∃ fp, Ow W (.s 1 xs.length (xs.flatMap byteC)) (.slice (some ⟨gb, o, none⟩) xs.length c) fp ∧ ∀ b ∈ fp, b = gb := by
  by_cases h0 : xs.length = 0
  · refine ⟨[], ?_, fun b hb => by cases hb⟩
    unfold Ow
    exact ⟨by rw [flat_len byteC 1 byteC_len], _, c, rfl, hcap, hm, .inl ⟨h0, rfl⟩⟩
  · refine ⟨[gb], ?_, fun b hb => by simpa using hb⟩
    unfold Ow
    refine ⟨by rw [flat_len byteC 1 byteC_len], _, c, rfl, hcap, hm, .inr ⟨by omega, gb, o, [], rfl, ?_, rfl⟩⟩
    refine OwC.row _ (u8s_cells xs W) (fun j u hj => ?_)
    obtain ⟨hj', rfl⟩ := List.getElem?_eq_some_iff.1 hj
    have hj'' : j < xs.length := by simpa [u8s] using hj'
    rw [hc j hj'']
    simp [u8s]
end Go.Proofs.YtnaecdoeldoipaaGreatDoor
