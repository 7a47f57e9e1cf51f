/-
  Slices of bytes that a call makes by append: what they hold, and what appends do to them. The bytes of texts, numbers and trees: plain definitions. The program's packText. The reference's l4Short, l4Num and l4Tree. The reference's l4Num. The program's packTree. The reference's l4Tree.
-/
import Derived.Lib.AppendStr
import Derived.Lib.ConvBytes
import Derived.Laws.IdiomStrings
import Derived.Test.YtnaecdoeldoipaaGreatDoorQOwn
import Derived.Test.YtnaecdoeldoipaaGreatDoorQEventOk
set_option linter.unusedVariables false
set_option linter.unusedSimpArgs false
namespace Go.Proofs.YtnaecdoeldoipaaGreatDoor
open Go.ChangeShapes Go.WideShapes Go.ChangeAt Go.RowKit

def u8s (bs : List UInt8) : List Value := bs.map fun b => Value.int .u8 (b.toNat : Int)
theorem u8s_len (bs : List UInt8) : (u8s bs).length = bs.length := by simp [u8s]
theorem u8s_app (a b : List UInt8) : u8s (a ++ b) = u8s a ++ u8s b := by simp [u8s]
theorem u8s_one (bs : List UInt8) : ∀ u ∈ u8s bs, u.oneCell' = true := fun u hu => by
  simp only [u8s, List.mem_map] at hu
  obtain ⟨b, _, rfl⟩ := hu
  rfl
/-- A slice of bytes of the call's own, from B on. -/
def Byt (w : World) (B : Nat) (v : Value) (bs : List UInt8) : Prop := w.ownsRow B 5 1 v bs.length (u8s bs)
/-- What stays: all below B, and all rows that are not of bytes. -/
structure KB (B : Nat) (w w' : World) : Prop where
  below : Below B w w'
  rows : ∀ g e cs, Row w g e cs → e ≠ 5 → Row w' g e cs

section
variable {w w' w1 w2 : World} {B : Nat} {v v' : Value} {bs : List UInt8}
theorem KB.refl (B : Nat) (w : World) : KB B w w := ⟨Below.refl _ _, fun _ _ _ h _ => h⟩
theorem KB.trans (h : KB B w w1) (k : KB B w1 w2) : KB B w w2 := ⟨h.below.trans k.below, fun g e cs hr he => k.rows g e cs (h.rows g e cs hr he) he⟩
theorem KB.of (hB : B ≤ w.heap.size) (hb : Below w.heap.size w w') : KB B w w' := ⟨hb.mono hB, fun g e cs hr _ => hr.below hb hr.lt⟩
theorem KB.alloc (h : KB B w w1) (hB : B ≤ w1.heap.size) (o : Obj) : KB B w (w1.alloc o) := h.trans (KB.of hB ((Below.refl _ _).alloc (Nat.le_refl _) o))
theorem Byt.ne (h : Byt w B v bs) {g : Nat} {e : TypeId} {cs : List Value} (hr : Row w g e cs) (he : e ≠ 5) : v.ownBlock ≠ some g := fun hv => by
  rcases h.2 with ⟨rfl, _⟩ | ⟨g', cap, cur, rfl, _, hg, _⟩
  · cases hv
  · simp only [Value.ownBlock, Option.some.injEq] at hv
    subst hv
    unfold Row at hr
    rw [hg] at hr
    injection hr with hr
    injection hr with _ hr _
    exact he hr.symm
theorem KB.grown (h : Byt w B v bs) (hg : w.grownBy w' v.ownBlock) (hB : B ≤ w.heap.size) : KB B w w' :=
  ⟨⟨hg.os, hg.tape, hg.output, hg.size, fun i hi => hg.block i (by omega) (fun e => by have := (World.ownsRow.lt h i e.symm).1; omega)⟩, fun g e cs hr he => (hg.block g hr.lt (h.ne hr he).symm).trans hr⟩
theorem Byt.nil (w : World) (B : Nat) : Byt w B (.slice none 0 0) [] := World.ownsRow_nil _ _ _ _
theorem Byt.below (h : Byt w B v bs) (hb : Below w.heap.size w w') : Byt w' B v bs := ownsRow_below h hb
theorem Byt.alloc (h : Byt w B v bs) (o : Obj) : Byt (w.alloc o) B v bs := h.below ((Below.refl _ _).alloc (Nat.le_refl _) o)
theorem Byt.mono {C : Nat} (h : Byt w B v bs) (hC : C ≤ B) : Byt w C v bs := by
  refine ⟨h.1, ?_⟩
  rcases h.2 with hn | ⟨g, cap, cur, hv, hB, rest⟩
  · exact .inl hn
  · exact .inr ⟨g, cap, cur, hv, by omega, rest⟩
theorem Byt.new (w : World) (b : UInt8) : Byt (w.alloc (.cells #[.int .u8 (b.toNat : Int)] 5)) w.heap.size (.slice (some ⟨w.heap.size, 0, none⟩) 1 1) [b] :=
  ⟨rfl, .inr ⟨_, 1, _, rfl, Nat.le_refl _, heap_alloc_new w _, Nat.le_refl _, by decide, rfl, rfl⟩⟩
theorem u8s_cells : ∀ (bs : List UInt8) (w : World), OwC w (bs.flatMap byteC) (u8s bs) []
  | [], w => by simp [OwC, u8s]
  | b :: r, w => ⟨[], [], ⟨rfl, by
      have h := b.toNat_lt
      show (Lit.int .u8 (b.toNat : Int)).wf = true
      simp [Lit.wf, IntKind.min, IntKind.max, IntKind.signed, IntKind.bits]
      omega, rfl⟩, u8s_cells r w, rfl⟩
theorem Byt.toOw (h : Byt w B v bs) : ∃ fp, Ow w (.s 1 bs.length (bs.flatMap byteC)) v fp ∧ New w fp B :=
  OwS.toOw (f := byteC) ⟨h, u8s_cells bs w, New.nil _ _, fun g _ => by simp⟩
theorem Byt.form (h : Byt w B v bs) (hn : bs ≠ []) : ∃ g c, v = .slice (some ⟨g, 0, none⟩) bs.length c ∧ ∀ j u, (u8s bs)[j]? = some u → w.cell? ((⟨g, 0, none⟩ : Addr).add j) = some u := by
  rcases h.2 with ⟨_, h0⟩ | ⟨g, cap, cur, hv, _⟩
  · exact absurd (List.eq_nil_of_length_eq_zero h0) hn
  · subst hv
    exact ⟨g, cap, rfl, h.cells (g := g) rfl⟩
end

/-- a list of bytes as a text -/
def ba (l : List UInt8) : ByteArray := ⟨l.toArray⟩
theorem ba_size (l : List UInt8) : (ba l).size = l.length := by simp [ba, ByteArray.size]
theorem Byt.conv {w : World} {B : Nat} {v : Value} {bs : List UInt8} (h : Byt w B v bs) (hn : bs ≠ []) : (convert 22 9 v).run Tryz.prog w = .ok (.string (ba bs)) w := by
  obtain ⟨g, c, rfl, hc⟩ := h.form hn
  refine run_convert_bytes_back w 22 9 5 ⟨g, 0, none⟩ c bs Tryz.underlying22 Tryz.underlying5 Tryz.underlying9 (fun j hj => hc j _ ?_)
  simp [u8s, List.getElem?_eq_getElem hj]
section
variable {ops : Array Oper} {rest : List Oper} {o : Oper} {a : Act} {Q : Exit → Act → World → Prop} (w : World)
theorem wpl_bytes (hgd : o.guard = none) (s x : Operand) (ho : o.op = .call { callee := .builtin .append, args := #[s, x], argTypes := #[22, 22] })
    (B C : Nat) (v v2 : Value) (bs ys : List UInt8) (hs : a.eval s = v) (hown : Byt w B v bs) (hx : a.eval x = v2) (h2 : Byt w C v2 ys) (hn : ys ≠ []) (hl : bs.length + ys.length ≤ 1099511627776) (hB : B ≤ w.heap.size)
    (h : ∀ v' w', Byt w' B v' (bs ++ ys) → KB B w w' → wpList Tryz.prog ops Q rest (a.put o.dst v') w') : wpList Tryz.prog ops Q (o :: rest) a w := by
  obtain ⟨i0, hi, hz0, hz1, hz2⟩ := info_parts (show (Tryz.prog.info? 5).map (fun i => (i.zero, i.size, i.bytes)) = some (some (.int .u8 0), 1, 1) by kernel_rfl)
  obtain ⟨g, c, rfl, hc⟩ := h2.form hn
  refine wpList_append_own_at w hgd s x 22 ho B 5 i0 (.int .u8 0) 1 1 Tryz.underlying22 hi hz0 hz1 hz2 rfl (by decide) v bs.length (u8s bs) hs hown ⟨g, 0, none⟩ ys.length c (u8s ys) hx (by rw [u8s_len]; omega) hc (u8s_one ys) (by unfold maxLen; omega) (by omega) hB ?_
  intro v' w' hown' hgrow _ _
  refine h v' w' ?_ (KB.grown hown hgrow hB)
  unfold Byt
  rw [u8s_app, List.length_append]
  exact hown'
theorem wpl_cells (hgd : o.guard = none) (s x : Operand) (ho : o.op = .call { callee := .builtin .append, args := #[s, x], argTypes := #[22, 22] })
    (B : Nat) (v : Value) (bs ys : List UInt8) (hs : a.eval s = v) (hown : Byt w B v bs) (g n c : Nat) (hx : a.eval x = .slice (some ⟨g, 0, none⟩) n c) (hn : n = ys.length) (hc : ∀ j u, (u8s ys)[j]? = some u → w.cell? ((⟨g, 0, none⟩ : Addr).add j) = some u) (hl : bs.length + ys.length ≤ 1099511627776) (hB : B ≤ w.heap.size)
    (h : ∀ v' w', Byt w' B v' (bs ++ ys) → KB B w w' → wpList Tryz.prog ops Q rest (a.put o.dst v') w') : wpList Tryz.prog ops Q (o :: rest) a w := by
  subst hn
  obtain ⟨i0, hi, hz0, hz1, hz2⟩ := info_parts (show (Tryz.prog.info? 5).map (fun i => (i.zero, i.size, i.bytes)) = some (some (.int .u8 0), 1, 1) by kernel_rfl)
  refine wpList_append_own_at w hgd s x 22 ho B 5 i0 (.int .u8 0) 1 1 Tryz.underlying22 hi hz0 hz1 hz2 rfl (by decide) v bs.length (u8s bs) hs hown ⟨g, 0, none⟩ ys.length c (u8s ys) hx (by rw [u8s_len]; omega) hc (u8s_one ys) (by unfold maxLen; omega) (by omega) hB ?_
  intro v' w' hown' hgrow _ _
  refine h v' w' ?_ (KB.grown hown hgrow hB)
  unfold Byt
  rw [u8s_app, List.length_append]
  exact hown'
theorem wpl_push (hgd : o.guard = none) (s x : Operand) (ho : o.op = .call { callee := .builtin .append, args := #[s, x], argTypes := #[22, 22] })
    (B : Nat) (v : Value) (bs : List UInt8) (hs : a.eval s = v) (hown : Byt w B v bs) (g c : Nat) (b : UInt8) (z : Int) (hz : z = (b.toNat : Int)) (hx : a.eval x = .slice (some ⟨g, 0, none⟩) 1 c) (hc : w.cell? ⟨g, 0, none⟩ = some (.int .u8 z)) (hl : bs.length + 1 ≤ 1099511627776) (hB : B ≤ w.heap.size)
    (h : ∀ v' w', Byt w' B v' (bs ++ [b]) → KB B w w' → wpList Tryz.prog ops Q rest (a.put o.dst v') w') : wpList Tryz.prog ops Q (o :: rest) a w := by
  subst hz
  obtain ⟨i0, hi, hz0, hz1, hz2⟩ := info_parts (show (Tryz.prog.info? 5).map (fun i => (i.zero, i.size, i.bytes)) = some (some (.int .u8 0), 1, 1) by kernel_rfl)
  refine wpList_append_own_at w hgd s x 22 ho B 5 i0 (.int .u8 0) 1 1 Tryz.underlying22 hi hz0 hz1 hz2 rfl (by decide) v bs.length (u8s bs) hs hown ⟨g, 0, none⟩ 1 c (u8s [b]) hx rfl ?_ (u8s_one [b]) (by unfold maxLen; omega) (by omega) hB ?_
  · intro j u hj
    match j, hj with
    | 0, hj => simp [u8s] at hj; subst hj; simpa [Addr.add] using hc
  intro v' w' hown' hgrow _ _
  refine h v' w' ?_ (KB.grown hown hgrow hB)
  unfold Byt
  rw [u8s_app, List.length_append]
  exact hown'
theorem wpl_push1 (z : Int) (hgd : o.guard = none) (s x : Operand) (ho : o.op = .call { callee := .builtin .append, args := #[s, x], argTypes := #[22, 22] })
    (B : Nat) (v : Value) (bs : List UInt8) (hs : a.eval s = v) (hown : Byt w B v bs) (b : UInt8) (g : Nat) (hx : a.eval x = .slice (some ⟨g, 0, none⟩) 1 1) (hg : g = w.heap.size) (hz : z = (b.toNat : Int)) (hl : bs.length + 1 ≤ 1099511627776) (hB : B ≤ w.heap.size)
    (h : ∀ v' w', Byt w' B v' (bs ++ [b]) → KB B w w' → wpList Tryz.prog ops Q rest (a.put o.dst v') w') : wpList Tryz.prog ops Q (o :: rest) a (w.alloc (.cells #[.int .u8 z] 5)) := by
  subst hg
  refine wpl_push _ hgd s x ho B v bs hs (hown.alloc _) w.heap.size 1 b z hz hx (by simp) hl (by simp; omega) (fun v' w' h1 h2 => h v' w' h1 (((KB.refl B w).alloc hB _).trans h2))
theorem wpl_str (hgd : o.guard = none) (s x : Operand) (ho : o.op = .call { callee := .builtin .append, args := #[s, x], argTypes := #[22, 9] })
    (B : Nat) (v : Value) (bs : List UInt8) (hs : a.eval s = v) (hown : Byt w B v bs) (t : ByteArray) (hx : a.eval x = .string t) (hl : bs.length + t.size ≤ 1099511627776) (hB : B ≤ w.heap.size)
    (h : ∀ v' w', Byt w' B v' (bs ++ t.data.toList) → KB B w w' → wpList Tryz.prog ops Q rest (a.put o.dst v') w') : wpList Tryz.prog ops Q (o :: rest) a w := by
  obtain ⟨i0, hi, hz0, hz1, hz2⟩ := info_parts (show (Tryz.prog.info? 5).map (fun i => (i.zero, i.size, i.bytes)) = some (some (.int .u8 0), 1, 1) by kernel_rfl)
  refine Lib.wpList_append_own_string w hgd s x 22 9 ho B 5 i0 Tryz.underlying22 Tryz.underlying9 hi hz0 hz1 hz2 v bs.length (u8s bs) hs hown t hx (by unfold maxLen; omega) (by omega) hB ?_
  intro v' w' hown' hgrow _
  refine h v' w' ?_ (KB.grown hown hgrow hB)
  unfold Byt
  rw [u8s_app, List.length_append, show t.data.toList.length = t.size from by rw [Array.length_toList]; rfl]
  exact hown'
end
theorem Byt.lt {w : World} {B : Nat} {v : Value} {bs : List UInt8} (h : Byt w B v bs) : ∀ g, v.ownBlock = some g → g < w.heap.size := fun g hg => (World.ownsRow.lt h g hg).2
theorem bytes_part {w W : World} {L : List UInt8} {A : Option Addr} {c : Nat} {fp : List Nat} {g : Nat} (ho : Ow w (.s 1 L.length (L.flatMap byteC)) (.slice A L.length c) fp) (hfp : Lt fp g) (hb : Below g w W) (n m : Nat) (h : n + m ≤ L.length) (hL : 0 < L.length) :
    ∃ gb off, A = some ⟨gb, off, none⟩ ∧ gb < g ∧ ((L.drop n).take m).length = m ∧ ∀ j (hj : j < ((L.drop n).take m).length), W.cell? ⟨gb, off + n + j, none⟩ = some (.int .u8 (((L.drop n).take m)[j].toNat : Int)) := by
  obtain ⟨gb, off, rfl, hgm, hcell, -⟩ := bytes_at ho hL
  refine ⟨gb, off, rfl, hfp gb hgm, by simp; omega, fun j hj => ?_⟩
  have hj' : n + j < L.length := by simp at hj; omega
  obtain ⟨gb', off', e, hgm', hcell', -⟩ := bytes_at ho hj'
  injection e with e
  injection e with e1 e2 e3
  subst e1 e2
  rw [Nat.add_assoc, (hb.cell (p := ⟨gb, off + (n + j), none⟩) (hfp gb hgm)).trans hcell']
  simp
theorem bytes_mk {W : World} {gb o c : Nat} {xs : List UInt8} (hc : ∀ j (hj : j < xs.length), W.cell? ⟨gb, o + j, none⟩ = some (.int .u8 (xs[j].toNat : Int))) (hcap : xs.length ≤ c) (hm : c ≤ maxLen) :
    ∃ fp, Ow W (.s 1 xs.length (xs.flatMap byteC)) (.slice (some ⟨gb, o, none⟩) xs.length c) fp ∧ ∀ b ∈ fp, b = gb := by
  by_cases h0 : xs.length = 0
  · refine ⟨[], ?_, fun b hb => by cases hb⟩
    unfold Ow
    exact ⟨by rw [flat_len byteC 1 byteC_len], _, c, rfl, hcap, hm, .inl ⟨h0, rfl⟩⟩
  · refine ⟨[gb], ?_, fun b hb => by simpa using hb⟩
    unfold Ow
    refine ⟨by rw [flat_len byteC 1 byteC_len], _, c, rfl, hcap, hm, .inr ⟨by omega, gb, o, [], rfl, ?_, rfl⟩⟩
    refine OwC.row _ (u8s_cells xs W) (fun j u hj => ?_)
    obtain ⟨hj', rfl⟩ := List.getElem?_eq_some_iff.1 hj
    have hj'' : j < xs.length := by simpa [u8s] using hj'
    rw [hc j hj'']
    simp [u8s]
end Go.Proofs.YtnaecdoeldoipaaGreatDoor
set_option linter.unusedVariables false
set_option linter.unusedSimpArgs false
namespace Go.Proofs.YtnaecdoeldoipaaGreatDoor
open Go.ChangeShapes Go.WideShapes Go.ChangeAt Go.RowKit

def sevens (n : Nat) : List UInt8 := if n < 128 then [UInt8.ofNat n] else UInt8.ofNat (n % 128 + 128) :: sevens (n / 128)
termination_by n
decreasing_by omega
theorem sevens_lt {n : Nat} (h : n < 128) : sevens n = [UInt8.ofNat n] := by rw [sevens, if_pos h]
theorem sevens_ge {n : Nat} (h : 128 ≤ n) : sevens n = UInt8.ofNat (n % 128 + 128) :: sevens (n / 128) := by rw [sevens, if_neg (by omega)]
theorem sevens_len : ∀ (k n : Nat), n < 128 ^ (k + 1) → (sevens n).length ≤ k + 1
  | 0, n, h => by rw [sevens_lt (by simpa using h)]; simp
  | k + 1, n, h => by
    by_cases h1 : n < 128
    · rw [sevens_lt h1]; simp
    · rw [sevens_ge (by omega)]
      have := sevens_len k (n / 128) (by rw [Nat.div_lt_iff_lt_mul (by decide)]; rwa [Nat.pow_succ] at h)
      simp only [List.length_cons]; omega
def numB (n : Int) : List UInt8 := (if n < 0 then 1 else 0) :: sevens n.natAbs
def short (s : ByteArray) : List UInt8 := UInt8.ofNat s.size :: s.data.toList
theorem short_len (s : ByteArray) : (short s).length = s.size + 1 := by simp only [short, List.length_cons, Array.length_toList]; rfl

mutual
def Tree.pack : Tree → List UInt8
  | .mk s n x ns ks => UInt8.ofNat s.toNat :: (if s = 1 then numB n else if s = 2 then short x else if s = 3 then [UInt8.ofNat n.toNat] else UInt8.ofNat ks.length :: Tree.packS (s == 5) ns ks)
def Tree.packS : Bool → List ByteArray → List Tree → List UInt8
  | _, _, [] => []
  | f, ns, t :: r => (if f then short (ns.headD .empty) else []) ++ t.pack ++ Tree.packS f ns.tail r
end
theorem Tree.pack_eq (t : Tree) : t.pack = UInt8.ofNat t.sort.toNat :: (if t.sort = 1 then numB t.num else if t.sort = 2 then short t.text else if t.sort = 3 then [UInt8.ofNat t.num.toNat] else UInt8.ofNat t.kids.length :: Tree.packS (t.sort == 5) t.names t.kids) := by cases t; rw [Tree.pack]; rfl
theorem Tree.packS_snoc : ∀ (l : List Tree) (f : Bool) (ns : List ByteArray) (j : Nat) (h : j < l.length),
    Tree.packS f ns (l.take (j + 1)) = Tree.packS f ns (l.take j) ++ ((if f then short (ns[j]?.getD .empty) else []) ++ l[j].pack)
  | t :: r, f, ns, 0, h => by
    simp only [List.take_succ_cons, List.take_zero, Tree.packS, List.nil_append, List.append_nil, List.getElem_cons_zero]
    cases ns <;> rfl
  | t :: r, f, ns, j + 1, h => by
    have ih := Tree.packS_snoc r f ns.tail j (by simpa using h)
    simp only [List.take_succ_cons, Tree.packS, List.getElem_cons_succ] at ih ⊢
    rw [ih]
    have e : ns.tail[j]? = ns[j + 1]? := by cases ns <;> simp
    rw [e]
    simp only [List.append_assoc]

theorem Tree.goodS_memP : ∀ (l : List Tree) (lv : Nat), Tree.goodS l lv → ∀ x ∈ l, x.good lv
  | x :: r, lv, h, y, hy => by
    simp only [Tree.goodS] at h
    rcases List.mem_cons.1 hy with rfl | hy
    · exact h.1
    · exact Tree.goodS_memP r lv h.2 y hy
theorem headD_le : ∀ (ns : List ByteArray), (∀ s ∈ ns, s.size ≤ 8) → (ns.headD .empty).size ≤ 8
  | [], _ => by decide
  | s :: r, h => h s (by simp)
theorem Tree.packS_len : ∀ (l : List Tree) (f : Bool) (ns : List ByteArray), (∀ s ∈ ns, s.size ≤ 8) → (∀ x ∈ l, x.pack.length + 10 ≤ 80 * x.parts) → (Tree.packS f ns l).length ≤ 80 * Tree.partsS l
  | [], f, ns, _, _ => by simp [Tree.packS]
  | t :: r, f, ns, hn, hk => by
    have h1 := Tree.packS_len r f ns.tail (fun s hs => hn s (List.mem_of_mem_tail hs)) (fun x hx => hk x (by simp [hx]))
    have h2 := hk t (by simp)
    have h3 := headD_le ns hn
    have h4 := short_len (ns.headD .empty)
    simp only [Tree.packS, List.length_append, Tree.partsS]
    cases f <;> simp only [Bool.false_eq_true, if_false, if_true, List.length_nil] <;> omega
theorem Tree.names_leP {t : Tree} (h : t.shape) : ∀ s ∈ t.names, s.size ≤ 8 := fun s hs => by
  unfold Tree.shape at h
  have hz : t.names.length = 0 → False := fun e => by rw [List.eq_nil_of_length_eq_zero e] at hs; cases hs
  have h5 : NamesOk t.names := by
    rcases h with h | h | h | h | h | h
    · exact absurd h.2.2.2.1 hz
    · exact absurd h.2.2.2.1 hz
    · exact absurd h.2.2.2.1 hz
    · exact absurd h.2.2.2.1 hz
    · exact h.2.2.2.1
    · exact absurd h.2.2.2.1 hz
  obtain ⟨i, hi, rfl⟩ := List.getElem_of_mem hs
  exact (h5 i hi).1.2.1
theorem Tree.pack_len : ∀ (t : Tree) (lv : Nat), t.good lv → t.pack.length + 10 ≤ 80 * t.parts := by
  intro t
  refine Tree.ind (P := fun t => ∀ lv, t.good lv → t.pack.length + 10 ≤ 80 * t.parts) (fun t ih => ?_) t
  intro lv h
  have hg := (Tree.good_iff _ _).1 h
  have hp := t.parts_eq
  have hk : ∀ x ∈ t.kids, x.pack.length + 10 ≤ 80 * x.parts := fun x hx => ih x hx (lv + 1) (Tree.goodS_memP _ _ hg.2.2 x hx)
  have hs := hg.2.1
  have h3 := Tree.packS_len t.kids (t.sort == 5) t.names (Tree.names_leP hs) hk
  have h4 := short_len t.text
  unfold Tree.shape at hs
  rw [t.pack_eq]
  by_cases e1 : t.sort = 1
  · rw [if_pos e1]
    have h5 : t.num.natAbs < 128 ^ 5 := by have : (128 : Nat) ^ 5 = 34359738368 := by decide
                                           omega
    have := sevens_len 4 _ h5
    simp only [List.length_cons, numB]
    omega
  by_cases e2 : t.sort = 2
  · rw [if_neg e1, if_pos e2]
    have : t.text.size ≤ 60 := by
      have h6 : TextOk t.text := by
        rcases hs with h | h | h | h | h | h
        · omega
        · exact h.2.2.1
        · omega
        · omega
        · omega
        · omega
      exact h6.1
    simp only [List.length_cons]
    omega
  by_cases e3 : t.sort = 3
  · rw [if_neg e1, if_neg e2, if_pos e3]
    simp only [List.length_cons, List.length_nil]
    omega
  rw [if_neg e1, if_neg e2, if_neg e3]
  simp only [List.length_cons]
  omega
end Go.Proofs.YtnaecdoeldoipaaGreatDoor
set_option linter.unusedVariables false
set_option linter.unusedSimpArgs false
namespace Go.Proofs.YtnaecdoeldoipaaGreatDoor
open Go.ChangeShapes Go.WideShapes Go.ChangeAt Go.RowKit

theorem u8_of (n : Nat) (h : n < 256) : ((UInt8.ofNat n).toNat : Int) = (n : Int) := by
  rw [UInt8.toNat_ofNat']
  omega
set_option maxRecDepth 100000 in
theorem packText_any (bs : List UInt8) (s : ByteArray) (v : Value) (B : Nat) (w : World) (h : Byt w B v bs) (hB : B ≤ w.heap.size) (hs : s.size ≤ 255) (hl : bs.length + (short s).length ≤ 1073741824) :
    Calls Tryz.prog 79 #[v, .string s] w fun e w' => ∃ v', e = .returned v' ∧ Byt w' B v' (bs ++ short s) ∧ KB B w w' := by
  rw [short_len] at hl
  have H := hide h
  clear h
  go_enter Tryz.func79, Tryz.ntmps79
  go_wp2_with (at_builtin; refine wpl_push1 _ _ rfl _ _ rfl B _ bs rfl H.out (UInt8.ofNat s.size) _ rfl ?pg ?pz ?pl ?pb ?_)
  case pg => rfl
  case pz => rw [u8_of _ (by omega)]
  case pl => omega
  case pb => omega
  intro v1 w1 h1 k1
  have H1 := hide h1
  have K1 := hide k1
  have hb1 := K1.out.below.size
  clear h1 k1
  go_wp2_with (at_builtin; refine wpl_str _ rfl _ _ rfl B _ _ rfl H1.out s rfl ?pl ?pb ?_)
  case pl => simp; omega
  case pb => omega
  intro v2 w2 h2 k2
  go_wp2
  go_ret
  exact ⟨v2, rfl, by simpa [short] using h2, K1.out.trans k2⟩
end Go.Proofs.YtnaecdoeldoipaaGreatDoor
set_option linter.unusedVariables false
set_option linter.unusedSimpArgs false
namespace Go.Proofs.YtnaecdoeldoipaaGreatDoor
open Go.ChangeShapes Go.WideShapes Go.ChangeAt Go.RowKit

theorem bw_below (w : World) (e : TypeId) (s : ByteArray) : Below w.heap.size w (Lib.bytesWorld w e s) :=
  ⟨rfl, rfl, rfl, by rw [Lib.bytesWorld_size]; omega, fun k hk => Lib.bytesWorld_at_old w e s k hk⟩
theorem bw_cells (w : World) (e : TypeId) (s : ByteArray) (g : Nat) (hg : g = w.heap.size) : ∀ j u, (u8s s.data.toList)[j]? = some u → (Lib.bytesWorld w e s).cell? ((⟨g, 0, none⟩ : Addr).add j) = some u := by
  subst hg
  intro j u hj
  have hjl : j < s.size := by
    have := (List.getElem?_eq_some_iff.1 hj).1
    rw [u8s_len, Array.length_toList] at this
    exact this
  have hadd : (⟨w.heap.size, 0, none⟩ : Addr).add j = ⟨w.heap.size, j, none⟩ := by unfold Addr.add; split <;> simp_all
  rw [hadd, Lib.bytesWorld_cell w e s j hjl]
  have hjl' : j < s.data.toList.length := by rw [Array.length_toList]; exact hjl
  rw [← hj]
  simp only [u8s, List.getElem?_map, List.getElem?_eq_getElem hjl', List.getD_eq_getElem?_getD, Option.map_some, Option.getD_some]

set_option maxRecDepth 100000 in
theorem l4Short_any (s : ByteArray) (w : World) (hs : s.size ≤ 255) :
    Calls Tryz.prog 76 #[.string s] w fun e w' => ∃ v', e = .returned v' ∧ Byt w' w.heap.size v' (short s) ∧ Below w.heap.size w w' := by
  have hcv := fun (u : World) => Lib.run_convert_string_bytes (P := Tryz.prog) u 9 22 5 s Tryz.underlying9 Tryz.underlying22 Tryz.underlying5
  have hz : ((s.size : Nat) : Int) = ((UInt8.ofNat s.size).toNat : Int) := (u8_of _ (by omega)).symm
  have H0 := hide (Byt.new w (UInt8.ofNat s.size))
  rw [← hz] at H0
  clear hz
  go_enter Tryz.func76, Tryz.ntmps76
  go_wp2_with (at_builtin; refine wpl_cells _ rfl _ _ rfl w.heap.size _ [UInt8.ofNat s.size] s.data.toList rfl (H0.out.below (bw_below _ _ _)) _ _ _ rfl ?qn ?qc ?ql ?qb ?_)
  case qn => rw [Array.length_toList]; rfl
  case qc => exact bw_cells _ _ _ _ (by simp)
  case ql => simp only [List.length_cons, List.length_nil, Array.length_toList]; show 0 + 1 + s.size ≤ _; omega
  case qb => rw [Lib.bytesWorld_size]; simp; omega
  intro v1 w1 h1 k1
  go_wp2
  go_ret
  refine ⟨v1, rfl, h1, ?_⟩
  exact ((Below.refl w.heap.size w).alloc (Nat.le_refl _) _).trans (((bw_below _ _ _).mono (by simp)).trans k1.below)
end Go.Proofs.YtnaecdoeldoipaaGreatDoor
set_option linter.unusedVariables false
set_option linter.unusedSimpArgs false
namespace Go.Proofs.YtnaecdoeldoipaaGreatDoor
open Go.ChangeShapes Go.WideShapes Go.ChangeAt Go.RowKit

set_option maxRecDepth 100000 in
set_option maxHeartbeats 1000000 in
theorem l4Num_any (z : Int) (w : World) (hz : -999999999 ≤ z ∧ z ≤ 999999999) :
    Calls Tryz.prog 126 #[.int .i64 z] w fun e w' => ∃ v', e = .returned v' ∧ Byt w' w.heap.size v' (numB z) ∧ Below w.heap.size w w' := by
  have hN : z.natAbs < 1073741824 := by omega
  have hw0 : ∀ o, Below w.heap.size w (w.alloc o) := fun o => (Below.refl _ _).alloc (Nat.le_refl _) _
  by_cases hneg : z < 0
  · have HE := hide (show numB z = 1 :: sevens z.natAbs by unfold numB; rw [if_pos hneg])
    have H0 := hide (Byt.new w 1)
    go_enter Tryz.func126, Tryz.ntmps126
    go_wp2
    go_loopw [0, 3] (fun sz vv wr => ∃ (n : Nat) (dn : List UInt8), sz = .int .i64 n ∧ n < 1073741824 ∧ dn ++ sevens n = sevens z.natAbs ∧ Byt wr w.heap.size vv ([1] ++ dn) ∧ Below w.heap.size w wr) (fun sz _ _ => (intOf sz).toNat)
    case atStart => exact ⟨z.natAbs, [], by congr 1; omega, hN, rfl, by simpa using H0.out, hw0 _⟩
    case round =>
      obtain ⟨n, dn, rfl, hn1, hdn, hby, hkb⟩ := hrel
      have HBY := hide hby
      have HKB := hide hkb
      have b3 := hkb.size
      have hdl : dn.length + (sevens n).length = (sevens z.natAbs).length := by rw [← hdn]; simp
      have h5l := sevens_len 4 z.natAbs (by have : (128 : Nat) ^ 5 = 34359738368 := by decide
                                            omega)
      have HDN := hide hdn
      clear hby hkb hdn
      by_cases hge : 128 ≤ n
      · have hs := hide (sevens_ge hge)
        go_wp2_with (at_builtin; refine wpl_push1 _ _ rfl _ _ rfl w.heap.size _ _ rfl HBY.out (UInt8.ofNat (n % 128 + 128)) _ rfl ?pg1 ?pz1 ?pl1 ?pb1 ?_)
        case pg1 => first | rfl | simp
        case pz1 => rw [u8_of _ (by omega)]; omega
        case pl1 => (try simp); omega
        case pb1 => omega
        intro v4 w4_ h4 k4
        have H4 := hide h4
        have K4 := hide (HKB.out.trans k4.below)
        clear h4 k4
        go_wp2
        go_roundw
        case rel => exact ⟨n / 128, dn ++ [UInt8.ofNat (n % 128 + 128)], by go_num, by omega, by rw [← HDN.out, hs.out]; simp, by simpa using H4.out, K4.out⟩
        case measure => simp [intOf]; omega
      · have hs := hide (sevens_lt (n := n) (by omega))
        go_wp2_with (at_builtin; refine wpl_push1 _ _ rfl _ _ rfl w.heap.size _ _ rfl HBY.out (UInt8.ofNat n) _ rfl ?pg2 ?pz2 ?pl2 ?pb2 ?_)
        case pg2 => first | rfl | simp
        case pz2 => rw [u8_of _ (by omega)]; (try omega)
        case pl2 => (try simp); omega
        case pb2 => omega
        intro v4 w4_ h4 k4
        have H4 := hide h4
        have K4 := hide (HKB.out.trans k4.below)
        clear h4 k4
        go_wp2
        go_ret
        exact ⟨v4, rfl, by rw [HE.out, ← HDN.out, hs.out]; simpa using H4.out, K4.out⟩
  · have HE := hide (show numB z = 0 :: sevens z.natAbs by unfold numB; rw [if_neg hneg])
    have H0 := hide (Byt.new w 0)
    go_enter Tryz.func126, Tryz.ntmps126
    go_wp2
    go_loopw [0, 3] (fun sz vv wr => ∃ (n : Nat) (dn : List UInt8), sz = .int .i64 n ∧ n < 1073741824 ∧ dn ++ sevens n = sevens z.natAbs ∧ Byt wr w.heap.size vv ([0] ++ dn) ∧ Below w.heap.size w wr) (fun sz _ _ => (intOf sz).toNat)
    case atStart => exact ⟨z.natAbs, [], by congr 1; omega, hN, rfl, by simpa using H0.out, hw0 _⟩
    case round =>
      obtain ⟨n, dn, rfl, hn1, hdn, hby, hkb⟩ := hrel
      have HBY := hide hby
      have HKB := hide hkb
      have b3 := hkb.size
      have hdl : dn.length + (sevens n).length = (sevens z.natAbs).length := by rw [← hdn]; simp
      have h5l := sevens_len 4 z.natAbs (by have : (128 : Nat) ^ 5 = 34359738368 := by decide
                                            omega)
      have HDN := hide hdn
      clear hby hkb hdn
      by_cases hge : 128 ≤ n
      · have hs := hide (sevens_ge hge)
        go_wp2_with (at_builtin; refine wpl_push1 _ _ rfl _ _ rfl w.heap.size _ _ rfl HBY.out (UInt8.ofNat (n % 128 + 128)) _ rfl ?pg3 ?pz3 ?pl3 ?pb3 ?_)
        case pg3 => first | rfl | simp
        case pz3 => rw [u8_of _ (by omega)]; omega
        case pl3 => (try simp); omega
        case pb3 => omega
        intro v4 w4_ h4 k4
        have H4 := hide h4
        have K4 := hide (HKB.out.trans k4.below)
        clear h4 k4
        go_wp2
        go_roundw
        case rel => exact ⟨n / 128, dn ++ [UInt8.ofNat (n % 128 + 128)], by go_num, by omega, by rw [← HDN.out, hs.out]; simp, by simpa using H4.out, K4.out⟩
        case measure => simp [intOf]; omega
      · have hs := hide (sevens_lt (n := n) (by omega))
        go_wp2_with (at_builtin; refine wpl_push1 _ _ rfl _ _ rfl w.heap.size _ _ rfl HBY.out (UInt8.ofNat n) _ rfl ?pg4 ?pz4 ?pl4 ?pb4 ?_)
        case pg4 => first | rfl | simp
        case pz4 => rw [u8_of _ (by omega)]; (try omega)
        case pl4 => (try simp); omega
        case pb4 => omega
        intro v4 w4_ h4 k4
        have H4 := hide h4
        have K4 := hide (HKB.out.trans k4.below)
        clear h4 k4
        go_wp2
        go_ret
        exact ⟨v4, rfl, by rw [HE.out, ← HDN.out, hs.out]; simpa using H4.out, K4.out⟩
end Go.Proofs.YtnaecdoeldoipaaGreatDoor
set_option linter.unusedVariables false
set_option linter.unusedSimpArgs false
namespace Go.Proofs.YtnaecdoeldoipaaGreatDoor
open Go.ChangeShapes Go.WideShapes Go.ChangeAt Go.RowKit

def PackTree (t : Tree) : Prop := ∀ (us : List Value) (fp : List Nat) (lv : Nat) (v : Value) (bs : List UInt8) (B : Nat) (w : World), Byt w B v bs → B ≤ w.heap.size → OwC w t.cells us fp → Lt fp B → t.good lv → t.bulk ≤ 1048576 → bs.length + t.pack.length ≤ 1073741824 →
  Calls Tryz.prog 78 #[v, .agg us.toArray] w fun e w' => ∃ v', e = .returned v' ∧ Byt w' B v' (bs ++ t.pack) ∧ KB B w w'
theorem Tree.packS_le (f : Bool) (ns : List ByteArray) (l : List Tree) (j : Nat) : (Tree.packS f ns (l.take j)).length ≤ (Tree.packS f ns l).length := by
  induction l generalizing ns j with
  | nil => simp
  | cons t r ih =>
    cases j with
    | zero => simp [Tree.packS]
    | succ j =>
      have := ih ns.tail j
      simp only [List.take_succ_cons, Tree.packS, List.length_append]
      omega

set_option maxRecDepth 100000 in
set_option maxHeartbeats 2000000 in
theorem packTree_of (t : Tree) (ih : ∀ x ∈ t.kids, PackTree x) : PackTree t := by
  intro us fp lv v bs B w hv hB ho hf hg hbk hl
  obtain ⟨A1, c1, A2, c2, f1, f2, rfl, w0, w1, w2, o1, o2, rfl⟩ := ho.oTree
  have K0 := hide ((KB.refl B w).alloc hB (.cells #[.int .i64 t.sort, .int .i64 t.num, .string t.text, .slice A1 t.names.length c1, .slice A2 t.kids.length c2] 26))
  have HV := hide (hv.alloc (.cells #[.int .i64 t.sort, .int .i64 t.num, .string t.text, .slice A1 t.names.length c1, .slice A2 t.kids.length c2] 26))
  have R0 : Row (w.alloc (.cells #[.int .i64 t.sort, .int .i64 t.num, .string t.text, .slice A1 t.names.length c1, .slice A2 t.kids.length c2] 26)) w.heap.size 26 [.int .i64 t.sort, .int .i64 t.num, .string t.text, .slice A1 t.names.length c1, .slice A2 t.kids.length c2] := Row.new w _ _
  have O1 := hide o1
  have O2 := hide o2
  have hgg := (Tree.good_iff _ _).1 hg
  have HG := hide hg
  have hsh := hgg.2.1
  unfold Tree.shape at hsh
  have HSH := hide hsh
  have HNS := hide (Tree.names_leP hgg.2.1)
  have s1 : 1 ≤ t.sort := by omega
  have s6 : t.sort ≤ 6 := by omega
  have hkb := t.bulk_eq; unfold bulkStrs at hkb
  have HE := hide t.pack_eq
  have HI := hide ih
  clear ho o1 o2 hv hg hgg hsh ih
  go_enter Tryz.func78, Tryz.ntmps78
  go_wp2_with (at_builtin; refine wpl_push1 _ _ rfl _ _ rfl B _ bs rfl HV.out (UInt8.ofNat t.sort.toNat) _ rfl ?pg1 ?pz1 ?pl1 ?pb1 ?_)
  case pg1 => first | rfl | simp | (trace_state; fail)
  first | (case pz1 => rw [u8_of _ (by omega)]; omega) | skip
  case pl1 => (try simp); omega
  case pb1 => have := K0.out.below.size; (first | omega | ((try simp); omega))
  intro v1 w1_ h1 k1
  have H1 := hide h1
  have R1 := k1.rows _ _ _ R0 (by decide)
  have K1 := hide (K0.out.trans k1)
  clear h1 k1
  have b1 := K1.out.below.size
  have lr1 := R1.lt
  have q0 := R1.cell 0
  have q1 := R1.cell 1
  have q2 := R1.cell 2
  have q3 := R1.cell 3
  have q4 := R1.cell 4
  by_cases e1 : t.sort = 1
  · have z1 : (t.sort == 1) = true := by simp [e1]
    rw [if_pos e1] at HE
    have hn : -999999999 ≤ t.num ∧ t.num ≤ 999999999 := by have := HSH.out; omega
    have hE := hide (show bs ++ t.pack = bs ++ [UInt8.ofNat t.sort.toNat] ++ [if t.num < 0 then 1 else 0] ++ sevens t.num.natAbs by rw [HE.out]; simp [numB])
    have hE2 : t.pack.length = 2 + (sevens t.num.natAbs).length := by rw [HE.out]; simp [numB]; omega
    clear e1
    by_cases hneg : t.num < 0
    · have hsg : (if t.num < 0 then 1 else 0 : UInt8) = 1 := if_pos hneg
      rw [hsg] at hE
      clear hsg
      go_wp2_with (at_builtin; refine wpl_push1 _ _ rfl _ _ rfl B _ _ rfl H1.out 1 _ rfl ?pg2 ?pz2 ?pl2 ?pb2 ?_)
      case pg2 => first | rfl | simp | (trace_state; fail)
      first | (case pz2 => rfl) | skip
      case pl2 => (try simp); omega
      case pb2 => have := K1.out.below.size; (first | omega | ((try simp); omega))
      intro v2 w2_ h2 k2
      have H2 := hide h2
      have R2 := k2.rows _ _ _ R1 (by decide)
      have K2 := hide (K1.out.trans k2)
      clear h2 k2
      have b2 := K2.out.below.size
      have hN : t.num.natAbs < 1073741824 := by omega
      clear q0 q1 q2 q3 q4 R1 R2
      go_wp2
      go_loopw [0, 5] (fun vv sz wr => ∃ (n : Nat) (dn : List UInt8), sz = .int .i64 n ∧ n < 1073741824 ∧ dn ++ sevens n = sevens t.num.natAbs ∧ Byt wr B vv (bs ++ [UInt8.ofNat t.sort.toNat] ++ [1] ++ dn) ∧ KB B w wr) (fun _ sz _ => (intOf sz).toNat)
      case atStart => exact ⟨t.num.natAbs, [], by congr 1; omega, hN, rfl, by simpa using H2.out, K2.out⟩
      case round =>
        obtain ⟨n, dn, rfl, hn1, hdn, hby, hkb⟩ := hrel
        have HBY := hide hby
        have HKB := hide hkb
        have b3 := hkb.below.size
        have hdl : dn.length + (sevens n).length = (sevens t.num.natAbs).length := by rw [← hdn]; simp
        have HDN := hide hdn
        clear hby hkb hdn
        by_cases hge : 128 ≤ n
        · have hs := hide (sevens_ge hge)
          have hsl : 1 ≤ (sevens n).length := by rw [hs.out]; simp
          go_wp2_with (at_builtin; refine wpl_push1 _ _ rfl _ _ rfl B _ _ rfl HBY.out (UInt8.ofNat (n % 128 + 128)) _ rfl ?pg3 ?pz3 ?pl3 ?pb3 ?_)
          case pg3 => first | rfl | simp | (trace_state; fail)
          case pz3 => rw [u8_of _ (by omega)]; omega
          case pl3 => (try simp); omega
          case pb3 => omega
          intro v4 w4_ h4 k4
          have H4 := hide h4
          have K4 := hide (HKB.out.trans k4)
          clear h4 k4
          go_wp2
          go_roundw
          case rel => exact ⟨n / 128, dn ++ [UInt8.ofNat (n % 128 + 128)], by go_num, by omega, by rw [← HDN.out, hs.out]; simp, by simpa using H4.out, K4.out⟩
          case measure => simp [intOf]; omega
        · have hs := hide (sevens_lt (n := n) (by omega))
          have hsl : 1 ≤ (sevens n).length := by rw [hs.out]; simp
          go_wp2_with (at_builtin; refine wpl_push1 _ _ rfl _ _ rfl B _ _ rfl HBY.out (UInt8.ofNat n) _ rfl ?pg4 ?pz4 ?pl4 ?pb4 ?_)
          case pg4 => first | rfl | simp | (trace_state; fail)
          case pz4 => rw [u8_of _ (by omega)]; (try omega)
          case pl4 => (try simp); omega
          case pb4 => omega
          intro v4 w4_ h4 k4
          have H4 := hide h4
          have K4 := hide (HKB.out.trans k4)
          clear h4 k4
          go_wp2
          go_ret
          exact ⟨v4, rfl, by rw [hE.out, ← HDN.out, hs.out]; simpa using H4.out, K4.out⟩
    · have hsg : (if t.num < 0 then 1 else 0 : UInt8) = 0 := if_neg hneg
      rw [hsg] at hE
      clear hsg
      go_wp2_with (at_builtin; refine wpl_push1 _ _ rfl _ _ rfl B _ _ rfl H1.out 0 _ rfl ?pg5 ?pz5 ?pl5 ?pb5 ?_)
      case pg5 => first | rfl | simp | (trace_state; fail)
      first | (case pz5 => rfl) | skip
      case pl5 => (try simp); omega
      case pb5 => have := K1.out.below.size; (first | omega | ((try simp); omega))
      intro v2 w2_ h2 k2
      have H2 := hide h2
      have R2 := k2.rows _ _ _ R1 (by decide)
      have K2 := hide (K1.out.trans k2)
      clear h2 k2
      have b2 := K2.out.below.size
      have hN : t.num.natAbs < 1073741824 := by omega
      clear q0 q1 q2 q3 q4 R1 R2
      go_wp2
      go_loopw [0, 5] (fun vv sz wr => ∃ (n : Nat) (dn : List UInt8), sz = .int .i64 n ∧ n < 1073741824 ∧ dn ++ sevens n = sevens t.num.natAbs ∧ Byt wr B vv (bs ++ [UInt8.ofNat t.sort.toNat] ++ [0] ++ dn) ∧ KB B w wr) (fun _ sz _ => (intOf sz).toNat)
      case atStart => exact ⟨t.num.natAbs, [], by congr 1; omega, hN, rfl, by simpa using H2.out, K2.out⟩
      case round =>
        obtain ⟨n, dn, rfl, hn1, hdn, hby, hkb⟩ := hrel
        have HBY := hide hby
        have HKB := hide hkb
        have b3 := hkb.below.size
        have hdl : dn.length + (sevens n).length = (sevens t.num.natAbs).length := by rw [← hdn]; simp
        have HDN := hide hdn
        clear hby hkb hdn
        by_cases hge : 128 ≤ n
        · have hs := hide (sevens_ge hge)
          have hsl : 1 ≤ (sevens n).length := by rw [hs.out]; simp
          go_wp2_with (at_builtin; refine wpl_push1 _ _ rfl _ _ rfl B _ _ rfl HBY.out (UInt8.ofNat (n % 128 + 128)) _ rfl ?pg6 ?pz6 ?pl6 ?pb6 ?_)
          case pg6 => first | rfl | simp | (trace_state; fail)
          case pz6 => rw [u8_of _ (by omega)]; omega
          case pl6 => (try simp); omega
          case pb6 => omega
          intro v4 w4_ h4 k4
          have H4 := hide h4
          have K4 := hide (HKB.out.trans k4)
          clear h4 k4
          go_wp2
          go_roundw
          case rel => exact ⟨n / 128, dn ++ [UInt8.ofNat (n % 128 + 128)], by go_num, by omega, by rw [← HDN.out, hs.out]; simp, by simpa using H4.out, K4.out⟩
          case measure => simp [intOf]; omega
        · have hs := hide (sevens_lt (n := n) (by omega))
          have hsl : 1 ≤ (sevens n).length := by rw [hs.out]; simp
          go_wp2_with (at_builtin; refine wpl_push1 _ _ rfl _ _ rfl B _ _ rfl HBY.out (UInt8.ofNat n) _ rfl ?pg7 ?pz7 ?pl7 ?pb7 ?_)
          case pg7 => first | rfl | simp | (trace_state; fail)
          case pz7 => rw [u8_of _ (by omega)]; (try omega)
          case pl7 => (try simp); omega
          case pb7 => omega
          intro v4 w4_ h4 k4
          have H4 := hide h4
          have K4 := hide (HKB.out.trans k4)
          clear h4 k4
          go_wp2
          go_ret
          exact ⟨v4, rfl, by rw [hE.out, ← HDN.out, hs.out]; simpa using H4.out, K4.out⟩
  · have z1 : (t.sort == 1) = false := by simp [e1]
    rw [if_neg e1] at HE
    by_cases e2 : t.sort = 2
    · have z2 : (t.sort == 2) = true := by simp [e2]
      rw [if_pos e2] at HE
      have ht : t.text.size ≤ 255 := by
        have h6 : TextOk t.text := by
          rcases HSH.out with h | h | h | h | h | h
          · omega
          · exact h.2.2.1
          · omega
          · omega
          · omega
          · omega
        have := h6.1
        omega
      have hE2 : t.pack.length = 1 + (short t.text).length := by rw [HE.out]; simp; omega
      clear e1 e2
      go_wp2_with fail
      refine (packText_any _ t.text _ B _ H1.out (by omega) ht (by simp; omega)).mono ?_
      rintro e w3 ⟨v3, rfl, h3, k3⟩
      have H3 := hide h3
      have K3 := hide (K1.out.trans k3)
      clear h3 k3
      go_wp2
      go_ret
      exact ⟨v3, rfl, by rw [HE.out]; simpa using H3.out, K3.out⟩
    · have z2 : (t.sort == 2) = false := by simp [e2]
      rw [if_neg e2] at HE
      by_cases e3 : t.sort = 3
      · have z3 : (t.sort == 3) = true := by simp [e3]
        rw [if_pos e3] at HE
        have hn : 0 ≤ t.num ∧ t.num ≤ 1 := by have := HSH.out; omega
        have hE2 : t.pack.length = 2 := by rw [HE.out]; simp
        clear e1 e2 e3
        go_wp2_with (at_builtin; refine wpl_push1 _ _ rfl _ _ rfl B _ _ rfl H1.out (UInt8.ofNat t.num.toNat) _ rfl ?pg8 ?pz8 ?pl8 ?pb8 ?_)
        case pg8 => first | rfl | simp | (trace_state; fail)
        first | (case pz8 => rw [u8_of _ (by omega)]; omega) | skip
        case pl8 => (try simp); omega
        case pb8 => have := K1.out.below.size; (first | omega | ((try simp); omega))
        intro v2 w2_ h2 k2
        have H2 := hide h2
        have R2 := k2.rows _ _ _ R1 (by decide)
        have K2 := hide (K1.out.trans k2)
        clear h2 k2
        go_wp2
        go_ret
        exact ⟨v2, rfl, by rw [HE.out]; simpa using H2.out, K2.out⟩
      · have z3 : (t.sort == 3) = false := by simp [e3]
        rw [if_neg e3] at HE
        have hkl : t.kids.length ≤ 120 ∨ True := .inr trivial
        have hsz := t.parts_eq
        have hE2 : t.pack.length = 2 + (Tree.packS (t.sort == 5) t.names t.kids).length := by rw [HE.out]; simp; omega
        have hkn : t.kids.length ≤ 1048576 := by omega
        clear hsz hkl
        go_wp2_with (at_builtin; refine wpl_push1 _ _ rfl _ _ rfl B _ _ rfl H1.out (UInt8.ofNat t.kids.length) _ rfl ?pg9 ?pz9 ?pl9 ?pb9 ?_)
        case pg9 => first | rfl | simp | (trace_state; fail)
        first | (case pz9 => simp only [UInt8.toNat_ofNat']; omega) | skip
        case pl9 => (try simp); omega
        case pb9 => have := K1.out.below.size; (first | omega | ((try simp); omega))
        intro v2 w2_ h2 k2
        have H2 := hide h2
        have R2 := k2.rows _ _ _ R1 (by decide)
        have K2 := hide (K1.out.trans k2)
        clear h2 k2
        have b2 := K2.out.below.size
        have lr2 := R2.lt
        have p4 := R2.cell 4
        clear q0 q1 q2 q3 q4
        go_wp2
        go_loopw [0, 71] (fun vv i wr => ∃ j : Nat, j ≤ t.kids.length ∧ i = .int .i64 j ∧ Byt wr B vv (bs ++ [UInt8.ofNat t.sort.toNat] ++ [UInt8.ofNat t.kids.length] ++ Tree.packS (t.sort == 5) t.names (t.kids.take j)) ∧ KB B w wr ∧ Row wr w.heap.size 26 [.int .i64 t.sort, .int .i64 t.num, .string t.text, .slice A1 t.names.length c1, .slice A2 t.kids.length c2]) (fun _ i _ => t.kids.length - (intOf i).toNat)
        case atStart => exact ⟨0, Nat.zero_le _, rfl, by simpa [Tree.packS] using H2.out, K2.out, R2⟩
        case round =>
          obtain ⟨j, hj, rfl, hby, hkw, hrow⟩ := hrel
          have HBY := hide hby
          have HKB := hide hkw
          have b3 := hkw.below.size
          clear hby hkw R1 R2 p4
          by_cases hlt : j < t.kids.length
          · obtain ⟨g, off, ws, fi, rfl, hgm, hfi, hwl, hcs, hov⟩ := (O2.out.below HKB.out.below hf.right).elem Tree.cells_len hlt
            have HOT := hide hov
            have HFT := hide ((hf.right).sub hfi)
            have hgl := hf.right _ hgm
            have HC := hide (HI.out _ (List.getElem_mem hlt))
            have hgx := hide (Tree.goodS_at ((Tree.good_iff _ _).1 HG.out).2.2 hlt)
            have hbx : t.kids[j].bulk ≤ 1048576 := by
              have h1 := Tree.bulkS_snoc t.kids j hlt
              have h2 := Tree.bulkS_le t.kids (j + 1)
              omega
            have hsn := hide (Tree.packS_snoc t.kids (t.sort == 5) t.names j hlt)
            have hle := Tree.packS_le (t.sort == 5) t.names t.kids (j + 1)
            rw [hsn.out] at hle
            simp only [List.length_append] at hle
            obtain ⟨D1, e1', D2, e2', r1, r2, rfl, y0, y1, y2, z1', z2', rfl⟩ := hov.oTree
            have p0 := hcs 0 _ rfl
            have p1 := hcs 1 _ rfl
            have p2 := hcs 2 _ rfl
            have p3 := hcs 3 _ rfl
            have p4 := hcs 4 _ rfl
            simp only [Nat.add_zero] at p0
            have hgw : g < wr.heap.size := by omega
            have hrl := hrow.lt
            clear hcs hov z1' z2' hfi
            obtain ⟨x, hx⟩ : ∃ x, t.kids[j] = x := ⟨_, rfl⟩
            rw [hx] at p0 p1 p2 p3 p4 HOT HC hgx hbx hsn hle
            have KX := hide (HKB.out.alloc (by omega) (.cells #[.int .i64 x.sort, .int .i64 x.num, .string x.text, .slice D1 x.names.length e1', .slice D2 x.kids.length e2'] 26))
            have HX := hide (HBY.out.alloc (.cells #[.int .i64 x.sort, .int .i64 x.num, .string x.text, .slice D1 x.names.length e1', .slice D2 x.kids.length e2'] 26))
            have RX : Row (wr.alloc (.cells #[.int .i64 x.sort, .int .i64 x.num, .string x.text, .slice D1 x.names.length e1', .slice D2 x.kids.length e2'] 26)) wr.heap.size 26 [.int .i64 x.sort, .int .i64 x.num, .string x.text, .slice D1 x.names.length e1', .slice D2 x.kids.length e2'] := Row.new wr _ _
            have RW := hrow.alloc (.cells #[.int .i64 x.sort, .int .i64 x.num, .string x.text, .slice D1 x.names.length e1', .slice D2 x.kids.length e2'] 26)
            have BX := hide (show Below B wr (wr.alloc (.cells #[.int .i64 x.sort, .int .i64 x.num, .string x.text, .slice D1 x.names.length e1', .slice D2 x.kids.length e2'] 26)) from (Below.refl _ _).alloc (by omega) _)
            clear hx
            by_cases e5 : t.sort = 5
            · have z5 : (t.sort == 5) = true := by simp [e5]
              have hnl : j < t.names.length := by have := HSH.out; omega
              obtain ⟨ga, oa, rfl, hga, hca, hs8⟩ := strs_at (O1.out.below KX.out.below hf.left) hnl
              have hn8 : t.names[j].size ≤ 8 := HNS.out _ (List.getElem_mem hnl)
              have hnd : (t.names[j]?.getD .empty) = t.names[j] := by rw [List.getElem?_eq_getElem hnl]; rfl
              rw [hnd, z5] at hsn hle
              simp only [if_true] at hle
              have hsl := short_len t.names[j]
              have HCU : Hid (Byt (wr.alloc (.cells #[.int .i64 x.sort, .int .i64 x.num, .string x.text, .slice D1 x.names.length e1', .slice D2 x.kids.length e2'] 26)) B _ (bs ++ [UInt8.ofNat t.sort.toNat] ++ [UInt8.ofNat t.kids.length] ++ Tree.packS (t.sort == 5) t.names (t.kids.take j))) := HX
              simp only [z5] at hE2 HCU hle
              clear hnd e5 HX HBY
              have x3 := RW.cell 3
              have x0 := RW.cell 0
              have lw := RW.lt
              obtain ⟨nm, hnm⟩ : ∃ nm, t.names[j] = nm := ⟨_, rfl⟩
              rw [hnm] at hca hn8 hsn hle hsl
              clear hnm
              go_wp2_with fail
              refine (packText_any _ nm _ B _ HCU.out (by simp; omega) (by omega) (by simp; omega)).mono ?_
              rintro e w5 ⟨v5, rfl, h5, k5⟩
              have H5 := hide h5
              have K5 := hide (KX.out.trans k5)
              have RX5 := k5.rows _ _ _ RX (by decide)
              have RW5 := k5.rows _ _ _ RW (by decide)
              have B5 := hide (BX.out.trans k5.below)
              clear h5 k5 RX RW x3 x0 lw hca
              have y0' := RX5.cell 0
              have y1' := RX5.cell 1
              have y2' := RX5.cell 2
              have y3' := RX5.cell 3
              have y4' := RX5.cell 4
              have ly := RX5.lt
              have b5 := K5.out.below.size
              go_wp2_with fail
              refine (HC.out _ _ (lv + 1) _ _ B _ H5.out (by omega) (HOT.out.below B5.out HFT.out) HFT.out hgx.out hbx (by simp; omega)).mono ?_
              rintro e w6 ⟨v6, rfl, h6, k6⟩
              have H6 := hide h6
              have K6 := hide (K5.out.trans k6)
              have R6 := hide (k6.rows _ _ _ RW5 (by decide))
              clear h6 k6 RX5 RW5 y0' y1' y2' y3' y4' ly
              go_wp2
              go_roundw
              case rel => exact ⟨j + 1, by omega, by go_num, by rw [z5, hsn.out]; simpa using H6.out, K6.out, R6.out⟩
              case measure => simp [intOf]; omega
            · have z5 : (t.sort == 5) = false := by simp [e5]
              rw [z5] at hsn hle
              simp only [Bool.false_eq_true, if_false, List.length_nil] at hle
              have HCU : Hid (Byt (wr.alloc (.cells #[.int .i64 x.sort, .int .i64 x.num, .string x.text, .slice D1 x.names.length e1', .slice D2 x.kids.length e2'] 26)) B _ (bs ++ [UInt8.ofNat t.sort.toNat] ++ [UInt8.ofNat t.kids.length] ++ Tree.packS (t.sort == 5) t.names (t.kids.take j))) := HX
              simp only [z5] at hE2 HCU hle
              clear e5 HX HBY
              have x0 := RW.cell 0
              have lw := RW.lt
              have bx : (wr.alloc (.cells #[.int .i64 x.sort, .int .i64 x.num, .string x.text, .slice D1 x.names.length e1', .slice D2 x.kids.length e2'] 26)).heap.size = wr.heap.size + 1 := by simp
              go_wp2_with fail
              refine (HC.out _ _ (lv + 1) _ _ B _ HCU.out (by omega) (HOT.out.below BX.out HFT.out) HFT.out hgx.out hbx (by simp; omega)).mono ?_
              rintro e w6 ⟨v6, rfl, h6, k6⟩
              have H6 := hide h6
              have K6 := hide (KX.out.trans k6)
              have R6 := hide (k6.rows _ _ _ RW (by decide))
              clear h6 k6 RX RW x0 lw
              go_wp2
              go_roundw
              case rel => exact ⟨j + 1, by omega, by go_num, by rw [z5, hsn.out]; simpa using H6.out, K6.out, R6.out⟩
              case measure => simp [intOf]; omega
          · obtain rfl : j = t.kids.length := by omega
            have HB2 := HBY
            rw [List.take_length] at HB2
            go_wp2
            go_ret
            exact ⟨_, rfl, by rw [HE.out]; simpa using HB2.out, HKB.out⟩
theorem packTree_any (t : Tree) : PackTree t := Tree.ind packTree_of t
end Go.Proofs.YtnaecdoeldoipaaGreatDoor
set_option linter.unusedVariables false
set_option linter.unusedSimpArgs false
namespace Go.Proofs.YtnaecdoeldoipaaGreatDoor
open Go.ChangeShapes Go.WideShapes Go.ChangeAt Go.RowKit

def PackU (t : Tree) : Prop := ∀ (us : List Value) (fp : List Nat) (lv : Nat) (w : World), OwC w t.cells us fp → Lt fp w.heap.size → t.good lv → t.bulk ≤ 1048576 → t.pack.length ≤ 1073741824 →
  Calls Tryz.prog 77 #[.agg us.toArray] w fun e w' => ∃ v', e = .returned v' ∧ Byt w' w.heap.size v' t.pack ∧ Below w.heap.size w w'
theorem Tree.pack_ne (t : Tree) : t.pack ≠ [] := by rw [t.pack_eq]; simp
theorem short_ne (s : ByteArray) : short s ≠ [] := by simp [short]
theorem numB_ne (n : Int) : numB n ≠ [] := by simp [numB]

set_option maxRecDepth 100000 in
set_option maxHeartbeats 2000000 in
theorem packU_of (t : Tree) (ih : ∀ x ∈ t.kids, PackU x) : PackU t := by
  intro us fp lv w ho hf hg hbk hl
  obtain ⟨A1, c1, A2, c2, f1, f2, rfl, w0, w1, w2, o1, o2, rfl⟩ := ho.oTree
  have hgg := (Tree.good_iff _ _).1 hg
  have HG := hide hg
  have hsh := hgg.2.1
  unfold Tree.shape at hsh
  have HSH := hide hsh
  have HNS := hide (Tree.names_leP hgg.2.1)
  have s1 : 1 ≤ t.sort := by omega
  have s6 : t.sort ≤ 6 := by omega
  have hkb := t.bulk_eq; unfold bulkStrs at hkb
  have HE := hide t.pack_eq
  have HI := hide ih
  have O1 := hide o1
  have O2 := hide o2
  have hz : (t.sort : Int) = ((UInt8.ofNat t.sort.toNat).toNat : Int) := by rw [u8_of _ (by omega)]; omega
  have H1 := hide ((Byt.new (w.alloc (.cells #[.int .i64 t.sort, .int .i64 t.num, .string t.text, .slice A1 t.names.length c1, .slice A2 t.kids.length c2] 26)) (UInt8.ofNat t.sort.toNat)).mono (C := w.heap.size) (by simp))
  rw [← hz] at H1
  simp only [World.size_alloc] at H1
  have R1 : Row ((w.alloc (.cells #[.int .i64 t.sort, .int .i64 t.num, .string t.text, .slice A1 t.names.length c1, .slice A2 t.kids.length c2] 26)).alloc (.cells #[.int .u8 t.sort] 5)) w.heap.size 26 [.int .i64 t.sort, .int .i64 t.num, .string t.text, .slice A1 t.names.length c1, .slice A2 t.kids.length c2] := (Row.new w _ _).alloc _
  have K1 := hide (((KB.refl w.heap.size w).alloc (Nat.le_refl _) (.cells #[.int .i64 t.sort, .int .i64 t.num, .string t.text, .slice A1 t.names.length c1, .slice A2 t.kids.length c2] 26)).alloc (by simp) (.cells #[.int .u8 t.sort] 5))
  have q0 := R1.cell 0
  have q1 := R1.cell 1
  have q2 := R1.cell 2
  have q3 := R1.cell 3
  have q4 := R1.cell 4
  have lr1 := R1.lt
  clear ho o1 o2 hg hgg hsh ih hz
  go_enter Tryz.func77, Tryz.ntmps77
  by_cases e1 : t.sort = 1
  · have z1 : (t.sort == 1) = true := by simp [e1]
    rw [if_pos e1] at HE
    have hn : -999999999 ≤ t.num ∧ t.num ≤ 999999999 := by have := HSH.out; omega
    have hlen : (numB t.num).length ≤ 10 := by
      have := sevens_len 4 t.num.natAbs (by have : (128 : Nat) ^ 5 = 34359738368 := by decide
                                            omega)
      simp only [numB, List.length_cons]; omega
    clear e1
    go_wp2_with fail
    refine (l4Num_any t.num _ hn).mono ?_
    rintro e u2 ⟨v2, rfl, h2, k2⟩
    have H1 := hide (H1.out.below k2)
    have K2 := hide (K1.out.trans (KB.of (by simp; omega) k2))
    have b2 := k2.size
    simp only [World.size_alloc] at b2
    clear k2
    go_wp2_with (at_builtin; refine wpl_bytes _ rfl _ _ rfl w.heap.size _ _ v2 _ _ rfl H1.out rfl h2 (numB_ne _) ?pl1 ?pb1 ?_)
    case pl1 => (try simp); omega
    case pb1 => omega
    intro v3 w3 h3 k3
    go_wp2
    go_ret
    exact ⟨v3, rfl, by rw [HE.out]; simpa using h3, (K2.out.trans k3).below⟩
  · have z1 : (t.sort == 1) = false := by simp [e1]
    rw [if_neg e1] at HE
    by_cases e2 : t.sort = 2
    · have z2 : (t.sort == 2) = true := by simp [e2]
      rw [if_pos e2] at HE
      have ht : t.text.size ≤ 255 := by
        have h6 : TextOk t.text := by
          rcases HSH.out with h | h | h | h | h | h
          · omega
          · exact h.2.2.1
          · omega
          · omega
          · omega
          · omega
        have := h6.1
        omega
      have hlen := short_len t.text
      clear e1 e2
      go_wp2_with fail
      refine (l4Short_any t.text _ ht).mono ?_
      rintro e u2 ⟨v2, rfl, h2, k2⟩
      have H1 := hide (H1.out.below k2)
      have K2 := hide (K1.out.trans (KB.of (by simp; omega) k2))
      have b2 := k2.size
      simp only [World.size_alloc] at b2
      clear k2
      go_wp2_with (at_builtin; refine wpl_bytes _ rfl _ _ rfl w.heap.size _ _ v2 _ _ rfl H1.out rfl h2 (short_ne _) ?pl2 ?pb2 ?_)
      case pl2 => (try simp); omega
      case pb2 => omega
      intro v3 w3 h3 k3
      go_wp2
      go_ret
      exact ⟨v3, rfl, by rw [HE.out]; simpa using h3, (K2.out.trans k3).below⟩
    · have z2 : (t.sort == 2) = false := by simp [e2]
      rw [if_neg e2] at HE
      by_cases e3 : t.sort = 3
      · have z3 : (t.sort == 3) = true := by simp [e3]
        rw [if_pos e3] at HE
        have hn : 0 ≤ t.num ∧ t.num ≤ 1 := by have := HSH.out; omega
        clear e1 e2 e3
        go_wp2_with (at_builtin; refine wpl_push1 _ _ rfl _ _ rfl w.heap.size _ _ rfl H1.out (UInt8.ofNat t.num.toNat) _ rfl ?pg3 ?pz3 ?pl3 ?pb3 ?_)
        case pg3 => simp
        case pz3 => rw [u8_of _ (by omega)]; omega
        case pl3 => (try simp); (try omega)
        case pb3 => simp; omega
        intro v3 w3 h3 k3
        go_wp2
        go_ret
        exact ⟨v3, rfl, by rw [HE.out]; simpa using h3, (K1.out.trans k3).below⟩
      · have z3 : (t.sort == 3) = false := by simp [e3]
        rw [if_neg e3] at HE
        have hE2 : t.pack.length = 2 + (Tree.packS (t.sort == 5) t.names t.kids).length := by rw [HE.out]; simp; omega
        have hkn : t.kids.length ≤ 1048576 := by omega
        go_wp2_with (at_builtin; refine wpl_push1 _ _ rfl _ _ rfl w.heap.size _ _ rfl H1.out (UInt8.ofNat t.kids.length) _ rfl ?pg4 ?pz4 ?pl4 ?pb4 ?_)
        case pg4 => simp
        case pz4 => simp only [UInt8.toNat_ofNat']; omega
        case pl4 => (try simp); (try omega)
        case pb4 => simp; omega
        intro v2 w2_ h2 k2
        have H2 := hide h2
        have R2 := k2.rows _ _ _ R1 (by decide)
        have K2 := hide (K1.out.trans k2)
        have b2 := K2.out.below.size
        have p4 := R2.cell 4
        have lr2 := R2.lt
        clear h2 k2 q0 q1 q2 q3 q4 R1 lr1
        go_wp2
        go_loopw [3, 4] (fun vv i wr => ∃ j : Nat, j ≤ t.kids.length ∧ i = .int .i64 j ∧ Byt wr w.heap.size vv ([UInt8.ofNat t.sort.toNat] ++ [UInt8.ofNat t.kids.length] ++ Tree.packS (t.sort == 5) t.names (t.kids.take j)) ∧ KB w.heap.size w wr ∧ Row wr w.heap.size 26 [.int .i64 t.sort, .int .i64 t.num, .string t.text, .slice A1 t.names.length c1, .slice A2 t.kids.length c2]) (fun _ i _ => t.kids.length - (intOf i).toNat)
        case atStart => exact ⟨0, Nat.zero_le _, rfl, by simpa [Tree.packS] using H2.out, K2.out, R2⟩
        case round =>
          obtain ⟨j, hj, rfl, hby, hkw, hrow⟩ := hrel
          have HBY := hide hby
          have HKB := hide hkw
          have b3 := hkw.below.size
          clear hby hkw R2 p4 lr2
          have r0 := hrow.cell 0
          have r3 := hrow.cell 3
          have r4 := hrow.cell 4
          have lr := hrow.lt
          by_cases hlt : j < t.kids.length
          · obtain ⟨g, off, ws, fi, rfl, hgm, hfi, hwl, hcs, hov⟩ := (O2.out.below HKB.out.below hf.right).elem Tree.cells_len hlt
            have HOT := hide hov
            have HFT := hide (((hf.right).sub hfi).mono b3)
            have hgl := hf.right _ hgm
            have HC := hide (HI.out _ (List.getElem_mem hlt))
            have hgx := hide (Tree.goodS_at ((Tree.good_iff _ _).1 HG.out).2.2 hlt)
            have hbx : t.kids[j].bulk ≤ 1048576 := by
              have h1 := Tree.bulkS_snoc t.kids j hlt
              have h2 := Tree.bulkS_le t.kids (j + 1)
              omega
            have hsn := hide (Tree.packS_snoc t.kids (t.sort == 5) t.names j hlt)
            have hle := Tree.packS_le (t.sort == 5) t.names t.kids (j + 1)
            rw [hsn.out] at hle
            simp only [List.length_append] at hle
            obtain ⟨D1, e1', D2, e2', r1', r2', rfl, y0, y1, y2, z1', z2', rfl⟩ := hov.oTree
            have p0 := hcs 0 _ rfl
            have p1 := hcs 1 _ rfl
            have p2 := hcs 2 _ rfl
            have p3 := hcs 3 _ rfl
            have p4 := hcs 4 _ rfl
            simp only [Nat.add_zero] at p0
            have hgw : g < wr.heap.size := by omega
            have hfi9 := hide hfi
            clear hcs hov z1' z2' hfi
            obtain ⟨x, hx⟩ : ∃ x, t.kids[j] = x := ⟨_, rfl⟩
            rw [hx] at p0 p1 p2 p3 p4 HOT HC hgx hbx hsn hle
            clear hx
            by_cases e5 : t.sort = 5
            · have z5 : (t.sort == 5) = true := by simp [e5]
              have hnl : j < t.names.length := by have := HSH.out; omega
              obtain ⟨ga, oa, rfl, hga, hca, hs8⟩ := strs_at (O1.out.below HKB.out.below hf.left) hnl
              have hn8 : t.names[j].size ≤ 8 := HNS.out _ (List.getElem_mem hnl)
              have hnd : (t.names[j]?.getD .empty) = t.names[j] := by rw [List.getElem?_eq_getElem hnl]; rfl
              rw [hnd, z5] at hsn hle
              simp only [if_true] at hle
              have hsl := short_len t.names[j]
              simp only [z5] at hE2
              have HBY := hide (z5 ▸ HBY.out)
              clear hnd e5
              obtain ⟨nm, hnm⟩ : ∃ nm, t.names[j] = nm := ⟨_, rfl⟩
              rw [hnm] at hca hn8 hsn hle hsl
              clear hnm
              go_wp2_with fail
              refine (l4Short_any nm _ (by omega)).mono ?_
              rintro e u5 ⟨v5, rfl, h5, k5⟩
              have HB5 := hide (HBY.out.below k5)
              have R5 := hrow.below k5 lr
              have K5 := hide (HKB.out.trans (KB.of (by omega) k5))
              have b5 := k5.size
              have p0c := hide p0
              have p1c := hide p1
              have p2c := hide p2
              have p3c := hide p3
              have p4c := hide p4
              clear r0 r3 r4 p0 p1 p2 p3 p4 hca
              go_wp2_with (at_builtin; refine wpl_bytes _ rfl _ _ rfl w.heap.size _ _ v5 _ _ rfl HB5.out rfl h5 (short_ne _) ?pl5 ?pb5 ?_)
              case pl5 => (try simp); omega
              case pb5 => omega
              intro v6 w6 h6 k6
              have H6 := hide h6
              have R6 := k6.rows _ _ _ R5 (by decide)
              have K6 := hide (K5.out.trans k6)
              have b6 := K6.out.below.size
              have r4 := R6.cell 4
              have lr6 := R6.lt
              have hgw6 : g < w6.heap.size := by omega
              have hcar : ∀ off', w6.cell? ⟨g, off', none⟩ = wr.cell? ⟨g, off', none⟩ := fun off' => ((K6.out.below.cell (p := ⟨g, off', none⟩) hgl).trans (HKB.out.below.cell (p := ⟨g, off', none⟩) hgl).symm)
              have p0 := (hcar _).trans p0c.out
              have p1 := (hcar _).trans p1c.out
              have p2 := (hcar _).trans p2c.out
              have p3 := (hcar _).trans p3c.out
              have p4 := (hcar _).trans p4c.out
              have HFT6 := hide ((hf.right).sub hfi9.out)
              have HOT6 := hide (OwC.frame _ (fun b hb => ((K6.out.below.block b (HFT6.out b hb)).trans (HKB.out.below.block b (HFT6.out b hb)).symm)) HOT.out)
              clear hcar
              go_wp2_with fail
              refine (HC.out _ _ (lv + 1) _ HOT6.out (HFT6.out.mono (by omega)) hgx.out hbx (by omega)).mono ?_
              rintro e u7 ⟨v7, rfl, h7, k7⟩
              have HB7 := hide (H6.out.below k7)
              have R7 := R6.below k7 lr6
              have K7 := hide (K6.out.trans (KB.of (by omega) k7))
              have b7 := k7.size
              clear r4 p0 p1 p2 p3 p4
              go_wp2_with (at_builtin; refine wpl_bytes _ rfl _ _ rfl w.heap.size _ _ v7 _ _ rfl HB7.out rfl h7 (Tree.pack_ne _) ?pl6 ?pb6 ?_)
              case pl6 => (try simp); omega
              case pb6 => omega
              intro v8 w8 h8 k8
              have H8 := hide h8
              have R8 := hide (k8.rows _ _ _ R7 (by decide))
              have K8 := hide (K7.out.trans k8)
              clear h8 k8 R7
              go_wp2
              go_roundw
              case rel => exact ⟨j + 1, by omega, by go_num, by rw [z5, hsn.out]; simpa using H8.out, K8.out, R8.out⟩
              case measure => simp [intOf]; omega
            · have z5 : (t.sort == 5) = false := by simp [e5]
              rw [z5] at hsn hle
              simp only [Bool.false_eq_true, if_false, List.length_nil] at hle
              simp only [z5] at hE2
              have HBY := hide (z5 ▸ HBY.out)
              clear e5
              go_wp2_with fail
              refine (HC.out _ _ (lv + 1) _ HOT.out HFT.out hgx.out hbx (by omega)).mono ?_
              rintro e u7 ⟨v7, rfl, h7, k7⟩
              have HB7 := hide (HBY.out.below k7)
              have R7 := hrow.below k7 lr
              have K7 := hide (HKB.out.trans (KB.of (by omega) k7))
              have b7 := k7.size
              clear r0 r3 r4 p0 p1 p2 p3 p4
              go_wp2_with (at_builtin; refine wpl_bytes _ rfl _ _ rfl w.heap.size _ _ v7 _ _ rfl HB7.out rfl h7 (Tree.pack_ne _) ?pl7 ?pb7 ?_)
              case pl7 => (try simp); omega
              case pb7 => omega
              intro v8 w8 h8 k8
              have H8 := hide h8
              have R8 := hide (k8.rows _ _ _ R7 (by decide))
              have K8 := hide (K7.out.trans k8)
              clear h8 k8 R7
              go_wp2
              go_roundw
              case rel => exact ⟨j + 1, by omega, by go_num, by rw [z5, hsn.out]; simpa using H8.out, K8.out, R8.out⟩
              case measure => simp [intOf]; omega
          · obtain rfl : j = t.kids.length := by omega
            have HB2 := HBY
            rw [List.take_length] at HB2
            go_wp2
            go_ret
            exact ⟨_, rfl, by rw [HE.out]; simpa using HB2.out, HKB.out.below⟩
theorem packU_any (t : Tree) : PackU t := Tree.ind packU_of t
end Go.Proofs.YtnaecdoeldoipaaGreatDoor
