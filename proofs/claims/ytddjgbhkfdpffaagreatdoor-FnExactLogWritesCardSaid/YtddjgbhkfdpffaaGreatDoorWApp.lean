/-
  A slice that the call itself made is appended to, by a list of elements: in a plain list of operations, and at a step of a region that draws its order; what the other slices and boxes keep.
-/
import Derived.Deep.AppendLies
import Derived.Laws.OwnMore
import Derived.Test.YtddjgbhkfdpffaaGreatDoorWOwn
set_option linter.unusedVariables false
set_option linter.unusedSimpArgs false
namespace Go.Proofs.YtddjgbhkfdpffaaGreatDoor
open Go.ChangeShapes Go.WideShapes Go.ChangeAt Go.RowKit

theorem grownBy_setCell (w : World) (p : Addr) (u : Value) : w.grownBy (w.setCell p u) (some p.block) :=
  ⟨rfl, rfl, rfl, by simp, fun k _ hn => Below.heap_setCell w p u k (fun e => hn (congrArg some e))⟩
theorem grownBy_below {w w' : World} (h : Below w.heap.size w w') (r : Option Nat) : w.grownBy w' r := ⟨h.os, h.tape, h.output, h.size, fun k hk _ => h.block k hk⟩
theorem Row.grown {w w' : World} {g : Nat} {e : TypeId} {cs : List Value} {r : Option Nat} (h : Row w g e cs) (hg : w.grownBy w' r) (hn : r ≠ some g) : Row w' g e cs := (hg.block g h.lt (fun e => hn e.symm)).trans h
theorem Ow.cell1 {w : World} : ∀ {d : D} {y : Value} {fp : List Nat}, Ow w d y fp → y.oneCell' = true
  | .v x, y, fp, h => by
    unfold Ow at h
    obtain ⟨rfl, h, _⟩ := h
    cases y <;> first | rfl | exact h.elim
  | .s k n l, y, fp, h => by
    obtain ⟨A, c, rfl, _⟩ := h.slice
    rfl
theorem OwC.cell1 {w : World} : ∀ (l : List D) {us : List Value} {fp : List Nat}, OwC w l us fp → ∀ u ∈ us, u.oneCell' = true
  | [], us, fp, h, u, hu => by
    cases us with
    | nil => cases hu
    | cons _ _ => exact h.elim
  | d :: r, us, fp, h, u, hu => by
    cases us with
    | nil => cases hu
    | cons y us =>
      obtain ⟨f1, f2, h1, h2, _⟩ := h
      rcases List.mem_cons.1 hu with rfl | hu
      · exact h1.cell1
      · exact OwC.cell1 r h2 u hu

section
variable {α : Type} {w w' : World} {B : Nat} {e : TypeId} {k : Nat} {f : α → List D} {v v' : Value} {l : List α} {us : List Value} {fi : List Nat}
theorem OwS.kept {r : Option Nat} (h : OwS w B e k f v l us fi) (hg : w.grownBy w' r) (hr : ∀ g, r = some g → g ∉ fi ∧ v.ownBlock ≠ some g) : OwS w' B e k f v l us fi := by
  refine ⟨h.own.kept hg ?_, h.cells.grown' hg h.new.lt (fun g hg => (hr g hg).1), h.new.grown hg (fun g hg => (hr g hg).1), h.out⟩
  cases hv : v.ownBlock with
  | none => exact .inl rfl
  | some b => exact .inr (fun e => (hr b e.symm).2 hv)
theorem OwS.setCell (h : OwS w B e k f v l us fi) {p : Addr} (hp : p.block ∉ fi) (hv : v.ownBlock ≠ some p.block) (u : Value) : OwS (w.setCell p u) B e k f v l us fi :=
  h.kept (grownBy_setCell w p u) (fun g hg => by injection hg with hg; subst hg; exact ⟨hp, hv⟩)
theorem OwS.from (h : OwS w B e k f v l us fi) {g : Nat} (hg : v.ownBlock = some g) : B ≤ g := (h.own.lt g hg).1
theorem OwS.low (h : OwS w B e k f v l us fi) {g : Nat} (hg : g < B) : v.ownBlock ≠ some g := fun e => by have := h.from e; omega
theorem OwS.nlow (h : OwS w B e k f v l us fi) {g : Nat} (hg : g < B) : g ∉ fi := h.new.out hg
theorem OwS.pushL (h : OwS w B e k f v l us fi) (r : List α) {ux : List Value} {fx : List Nat} (hx : OwC w (r.flatMap f) ux fx) (hn : New w (fi ++ fx) B) (ho : ∀ g, v.ownBlock = some g → g ∉ fx)
    (hown' : w'.ownsRow B e k v' (l.length + r.length) (us ++ ux)) (hg : w.grownBy w' v.ownBlock) (ha : v'.ownBlock = v.ownBlock ∨ v'.ownBlock = some w.heap.size) :
    OwS w' B e k f v' (l ++ r) (us ++ ux) (fi ++ fx) := by
  have hr : ∀ g, v.ownBlock = some g → g ∉ fi ++ fx := fun g hg hm => by
    rcases List.mem_append.1 hm with hm | hm
    · exact h.out g hg hm
    · exact ho g hg hm
  have hc : OwC w ((l ++ r).flatMap f) (us ++ ux) (fi ++ fx) := by
    rw [List.flatMap_append]
    exact h.cells.append hx
  refine ⟨by rw [List.length_append]; exact hown', hc.grown' hg hn.lt hr, hn.grown hg hr, fun g hgv hm => ?_⟩
  rcases ha with ha | ha
  · exact hr g (ha ▸ hgv) hm
  · rw [ha] at hgv
    injection hgv with hgv
    subst hgv
    exact Nat.lt_irrefl _ (hn.lt _ hm)
/-- what such a slice looks like -/
theorem OwS.form (h : OwS w B e k f v l us fi) : ∃ A c, v = .slice A l.length c := by
  rcases h.own.2 with ⟨rfl, h0⟩ | ⟨g, cap, cur, rfl, _⟩
  · exact ⟨_, _, by rw [h0]⟩
  · exact ⟨_, _, rfl⟩

/-- what it reads as, and of which blocks -/
theorem OwS.toOw' (h : OwS w B e k f v l us fi) : ∃ fp, Ow w (.s k l.length (l.flatMap f)) v fp ∧ New w fp B ∧ ∀ g ∈ fp, v.ownBlock = some g ∨ g ∈ fi := by
  have hl := h.cells.length
  have hu := h.own.1
  rcases h.own.2 with ⟨rfl, hn⟩ | ⟨g, cap, cur, rfl, hB, hg, h1, h2, h3, h4⟩
  · refine ⟨[], ?_, New.nil _ _, fun g hg => by cases hg⟩
    unfold Ow
    exact ⟨by rw [← hl, hu], none, 0, by rw [hn], by omega, by simp [maxLen], .inl ⟨hn, rfl⟩⟩
  · have hrow : Row w g e cur.toList := by simpa [Row] using hg
    by_cases h0 : l.length = 0
    · refine ⟨[], ?_, New.nil _ _, fun g hg => by cases hg⟩
      unfold Ow
      exact ⟨by rw [← hl, hu], _, cap, rfl, h1, h2, .inl ⟨h0, rfl⟩⟩
    · refine ⟨g :: fi, ?_, ⟨h.new.fr.cons hB hrow.lt, List.nodup_cons.2 ⟨h.out g rfl, h.new.nd⟩, fun b hb => ?_⟩, fun b hb => ?_⟩
      · unfold Ow
        refine ⟨by rw [← hl, hu], _, cap, rfl, h1, h2, .inr ⟨by omega, g, 0, fi, rfl, ?_, rfl⟩⟩
        refine OwC.row _ h.cells (fun j u hj => ?_)
        have hj' : j < us.length := (List.getElem?_eq_some_iff.1 hj).1
        rw [Nat.zero_add, hrow.cell]
        rw [← h4, List.getElem?_take] at hj
        split at hj
        · exact hj
        · cases hj
      · rcases List.mem_cons.1 hb with rfl | hb
        · exact Unf.row hrow
        · exact h.new.uf b hb
      · rcases List.mem_cons.1 hb with rfl | hb
        · exact .inl rfl
        · exact .inr hb

/-- where the new elements lie -/
def SrcAt (w : World) (ur : List Value) (A : Option Addr) (m c : Nat) : Prop := (A = none ∧ m = 0) ∨ ∃ ad, A = some ad ∧ ∀ j u, ur[j]? = some u → w.cell? (ad.add j) = some u

theorem run_app_none {P : Program} {w : World} (base : Nat) (t ty e : TypeId) (i : TypeInfo) (size : Nat) (ht : P.underlying t = some (.slice e)) (hi : P.info? e = some i)
    (v : Value) (n : Nat) (xs : List Value) (c : Nat) (hown : w.ownsRow base e size v n xs) :
    (Builtin.append_ #[t, t] ty #[v, .slice none 0 c]).run P w = .ok v w := by
  rcases hown.2 with ⟨rfl, rfl⟩ | ⟨g, cap, cur, rfl, _, _, hnc, _⟩
  · simp [Builtin.append_, run_underlying ht, sizeOf, typeInfo, hi, Builtin.lenOf, Builtin.firstCells]
  · simp [Builtin.append_, run_underlying ht, sizeOf, typeInfo, hi, Builtin.lenOf, Builtin.firstCells, hnc, storeCells]
theorem run_app {P : Program} (t ty e : TypeId) (i : TypeInfo) (z : Value) (k bytes : Nat) (ht : P.underlying t = some (.slice e)) (hi : P.info? e = some i) (hz : i.zero = some z) (hs : i.size = k) (hy : i.bytes = bytes) (hzs : z.cells.size = k) (hk0 : 0 < k)
    (hk : ∀ x, (f x).length = k) (h : OwS w B e k f v l us fi) (r : List α) {ur : List Value} {fr : List Nat} (hr : OwC w (r.flatMap f) ur fr) (hn : New w (fi ++ fr) B) (ho : ∀ g, v.ownBlock = some g → g ∉ fr)
    (A : Option Addr) (m c : Nat) (hm : m = r.length) (hsrc : SrcAt w ur A m c) (h63 : l.length + m ≤ maxLen) (hb : (l.length + m) * bytes ≤ 140737488355328) (hB : B ≤ w.heap.size) :
    ∃ A' n' c' w', (Builtin.append_ #[t, t] ty #[v, .slice A m c]).run P w = .ok (.slice A' n' c') w' ∧ n' = l.length + r.length ∧ OwS w' B e k f (.slice A' n' c') (l ++ r) (us ++ ur) (fi ++ fr) ∧ GB w w' v (.slice A' n' c') := by
  subst hm
  have hl : ur.length = r.length * k := by rw [hr.length, flat_len f k hk]
  rcases hsrc with ⟨rfl, h0⟩ | ⟨ad, rfl, hc⟩
  · have hr0 : r = [] := List.eq_nil_of_length_eq_zero h0
    subst hr0
    obtain ⟨A', c', rfl⟩ := h.form
    obtain rfl : ur = [] := List.eq_nil_of_length_eq_zero (by simpa using hl)
    have hf : fr = [] := by simpa [OwC] using hr
    subst hf
    refine ⟨A', l.length, c', w, run_app_none (P := P) (w := w) B t ty e i k ht hi _ _ us c h.own, by simp, ?_, GB.refl _ _⟩
    simpa using h
  · obtain ⟨v', w', hrun, h2, h3, _, h5⟩ := run_append_own_at (P := P) w B t ty e i z k bytes ht hi hz hs hy hzs hk0 v l.length us h.own ad r.length c ur hl hc (OwC.cell1 _ hr) h63 hb hB
    have hnew := h.pushL r hr hn ho h2 h3 h5
    obtain ⟨A', c', rfl⟩ := hnew.form
    exact ⟨A', _, c', w', hrun, by simp, hnew, GB.step h3 h5⟩
end

section
variable {P : Program} {ops : Array Oper} {rest : List Oper} {o : Oper} {a : Act} {K : Act → World → Prop} {Q : Exit → Act → World → Prop} {E : Prop}
variable {α : Type} {w : World} {B : Nat} {e : TypeId} {k : Nat} {f : α → List D} {v : Value} {l : List α} {us : List Value} {fi : List Nat}
theorem wp_app (s x : Operand) (t : TypeId) (ho' : o.op = .call { callee := .builtin .append, args := #[s, x], argTypes := #[t, t] })
    (i : TypeInfo) (z : Value) (bytes : Nat) (ht : P.underlying t = some (.slice e)) (hi : P.info? e = some i) (hz : i.zero = some z) (hs : i.size = k) (hy : i.bytes = bytes) (hzs : z.cells.size = k) (hk0 : 0 < k)
    (hk : ∀ x, (f x).length = k) (hv : a.eval s = v) (h : OwS w B e k f v l us fi) (r : List α) {ur : List Value} {fr : List Nat} (hr : OwC w (r.flatMap f) ur fr) (hn : New w (fi ++ fr) B) (ho : ∀ g, v.ownBlock = some g → g ∉ fr)
    (A : Option Addr) (m c : Nat) (hx : a.eval x = .slice A m c) (hm : m = r.length) (hsrc : SrcAt w ur A m c) (h63 : l.length + m ≤ 1099511627776) (hbt : bytes ≤ 128) (hB : B ≤ w.heap.size)
    (hK : ∀ A' n' c' w', n' = l.length + r.length → OwS w' B e k f (.slice A' n' c') (l ++ r) (us ++ ur) (fi ++ fr) → GB w w' v (.slice A' n' c') → K (a.put o.dst (.slice A' n' c')) w') : o.wp P a w K Q := by
  obtain ⟨A', n', c', w', hrun, h1, h2, h3⟩ := run_app (P := P) t o.type e i z k bytes ht hi hz hs hy hzs hk0 hk h r hr hn ho A m c hm hsrc (by unfold maxLen; omega) (Nat.le_trans (Nat.mul_le_mul h63 hbt) (by decide)) hB
  unfold Oper.wp execOp
  simp only [ho', resolve, invoke, builtin, Sem.run_bind, Sem.run_pure, Result.andThen_ok, List.map_toArray, List.map_cons, List.map_nil, hv, hx, hrun]
  exact hK A' n' c' w' h1 h2 h3
theorem wpl_app (hgd : o.guard = none) (s x : Operand) (t : TypeId) (ho' : o.op = .call { callee := .builtin .append, args := #[s, x], argTypes := #[t, t] })
    (i : TypeInfo) (z : Value) (bytes : Nat) (ht : P.underlying t = some (.slice e)) (hi : P.info? e = some i) (hz : i.zero = some z) (hs : i.size = k) (hy : i.bytes = bytes) (hzs : z.cells.size = k) (hk0 : 0 < k)
    (hk : ∀ x, (f x).length = k) (hv : a.eval s = v) (h : OwS w B e k f v l us fi) (r : List α) {ur : List Value} {fr : List Nat} (hr : OwC w (r.flatMap f) ur fr) (hn : New w (fi ++ fr) B) (ho : ∀ g, v.ownBlock = some g → g ∉ fr)
    (A : Option Addr) (m c : Nat) (hx : a.eval x = .slice A m c) (hm : m = r.length) (hsrc : SrcAt w ur A m c) (h63 : l.length + m ≤ 1099511627776) (hbt : bytes ≤ 128) (hB : B ≤ w.heap.size)
    (hK : ∀ A' n' c' w', n' = l.length + r.length → OwS w' B e k f (.slice A' n' c') (l ++ r) (us ++ ur) (fi ++ fr) → GB w w' v (.slice A' n' c') → wpList P ops Q rest (a.put o.dst (.slice A' n' c')) w') : wpList P ops Q (o :: rest) a w :=
  wpList_plain hgd fun _ hq => wp_app s x t ho' i z bytes ht hi hz hs hy hzs hk0 hk hv h r hr hn ho A m c hx hm hsrc h63 hbt hB fun A' n' c' w' h1 h2 h3 => hq _ _ (hK A' n' c' w' h1 h2 h3)
theorem step_app (hgd : o.guard = none) (s x : Operand) (t : TypeId) (ho' : o.op = .call { callee := .builtin .append, args := #[s, x], argTypes := #[t, t] })
    (i : TypeInfo) (z : Value) (bytes : Nat) (ht : P.underlying t = some (.slice e)) (hi : P.info? e = some i) (hz : i.zero = some z) (hs : i.size = k) (hy : i.bytes = bytes) (hzs : z.cells.size = k) (hk0 : 0 < k)
    (hk : ∀ x, (f x).length = k) (hv : a.eval s = v) (h : OwS w B e k f v l us fi) (r : List α) {ur : List Value} {fr : List Nat} (hr : OwC w (r.flatMap f) ur fr) (hn : New w (fi ++ fr) B) (ho : ∀ g, v.ownBlock = some g → g ∉ fr)
    (A : Option Addr) (m c : Nat) (hx : a.eval x = .slice A m c) (hm : m = r.length) (hsrc : SrcAt w ur A m c) (h63 : l.length + m ≤ 1099511627776) (hbt : bytes ≤ 128) (hB : B ≤ w.heap.size)
    (hK : ∀ A' n' c' w', n' = l.length + r.length → OwS w' B e k f (.slice A' n' c') (l ++ r) (us ++ ur) (fi ++ fr) → GB w w' v (.slice A' n' c') → K (a.put o.dst (.slice A' n' c')) w') :
    if Region.wanted o (yielded ops a.tmps) = true then Oper.wp P o a w K Q else E := by
  have hw : Region.wanted o (yielded ops a.tmps) = true := by simp [Region.wanted, hgd]
  rw [if_pos hw]
  exact wp_app s x t ho' i z bytes ht hi hz hs hy hzs hk0 hk hv h r hr hn ho A m c hx hm hsrc h63 hbt hB hK
end
/-- one element in a block of its own, laid out just now -/
theorem SrcAt.new (w : World) (cs : List Value) (t : TypeId) (m c : Nat) : SrcAt (w.alloc (.cells cs.toArray t)) cs (some ⟨w.heap.size, 0, none⟩) m c :=
  .inr ⟨_, rfl, fun j u hu => World.news_of_block (heap_alloc_new w _) j u (by simpa using hu)⟩
/-- a slice that is read -/
theorem Ow.srcAt {α : Type} {w : World} {f : α → List D} {k : Nat} {l : List α} {A : Option Addr} {n c : Nat} {fp : List Nat} (h : Ow w (.s k l.length (l.flatMap f)) (.slice A n c) fp) :
    ∃ us f2, OwC w (l.flatMap f) us f2 ∧ SrcAt w us A n c ∧ f2 ⊆ fp := by
  unfold Ow at h
  obtain ⟨hl, A', c', e, _, _, h⟩ := h
  injection e with e1 e2 e3
  subst e1 e2 e3
  rcases h with ⟨h0, rfl⟩ | ⟨h0, g, off, f1, rfl, ho, rfl⟩
  · have hl0 : l = [] := List.eq_nil_of_length_eq_zero h0
    subst hl0
    refine ⟨[], [], by simp [OwC], ?_, by simp⟩
    cases A with
    | none => exact .inl ⟨rfl, rfl⟩
    | some ad => exact .inr ⟨ad, rfl, fun j u hu => by simp at hu⟩
  · obtain ⟨us, hu, hc, ho⟩ := ho.cells
    refine ⟨us, f1, ho, .inr ⟨_, rfl, fun j u hj => ?_⟩, fun b hb => List.mem_cons_of_mem _ hb⟩
    rw [Addr.add_lit]
    exact hc j u hj
end Go.Proofs.YtddjgbhkfdpffaaGreatDoor
