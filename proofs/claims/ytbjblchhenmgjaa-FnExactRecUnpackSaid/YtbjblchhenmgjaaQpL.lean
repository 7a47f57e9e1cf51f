/-
  Schemas: the program's KindOk and the reference's answer alike. A slice that the call itself made is appended to, by a list of elements: in a plain list of operations, and at a step of a region that draws its order; what the other slices and boxes keep. A struct in a block of its own with two slices that the call itself grows.
-/
import Derived.Test.YtbjblchhenmgjaaQpK
import Derived.Test.YtbjblchhenmgjaaQpD
import Derived.Deep.AppendLies
import Derived.Laws.OwnMore
import Derived.Laws.ResultCell
set_option linter.unusedVariables false
set_option linter.unusedSimpArgs false
namespace Go.Proofs.Ytbjblchhenmgjaa
open Go.ChangeShapes Go.WideShapes Go.ChangeAt Go.RowKit

def Kind.ok (k : Kind) : Prop := k.fits 1 0

set_option maxRecDepth 100000 in
theorem implKindOk_any (k : Kind) (us : List Value) (fp : List Nat) (w : World) (ho : OwC w k.cells us fp) (hf : Lt fp w.heap.size) (hbk : k.bulk ≤ 1048576) :
    Calls Try.prog 40 #[.agg us.toArray] w fun e w' => e = .returned (.bool (tb k.ok)) ∧ Below w.heap.size w w' := by
  have ho' := ho
  obtain ⟨A1, c1, A2, c2, f1, f2, rfl, w0, o1, o2, rfl⟩ := ho.oKind
  have hw1 : Below w.heap.size w ((w.alloc (.cells #[.int .i64 k.sort, .slice A1 k.names.length c1, .slice A2 k.kids.length c2] 47)).alloc (.cells #[.int .i64 0] 3)) := ((Below.refl _ _).alloc (Nat.le_refl _) _).alloc (by simp) _
  have HO := hide (ho'.below hw1 hf)
  have hf2 := (hf.mono hw1.size)
  have hnm : w.heap.size + 1 ∉ f1 ++ f2 := hf.not_mem (by omega)
  clear ho ho' o1 o2
  go_enter Try.func40, Try.ntmps40
  go_wp2_with fail
  refine (lookKind_any k _ _ 1 _ 0 _ _ (by omega) HO.out hf2 hbk (by omega) (by omega) (by omega) (by omega) (by go_simp) (by go_simp) hnm).mono ?_
  rintro e w2 ⟨rfl, _, _, hg⟩
  have hb : Below w.heap.size w w2 := ⟨hg.os.trans hw1.os, hg.tape.trans hw1.tape, hg.output.trans hw1.output, Nat.le_trans hw1.size hg.size, fun i hi => (hg.block i (by simp; omega) (fun e => by injection e with e; omega)).trans (hw1.block i hi)⟩
  go_wp2
  go_ret
  exact ⟨rfl, hb⟩

set_option maxRecDepth 100000 in
theorem specKindOk_any (k : Kind) (us : List Value) (fp : List Nat) (w : World) (ho : OwC w k.cells us fp) (hf : Lt fp w.heap.size) (hbk : k.bulk ≤ 1048576) :
    Calls Try.prog 45 #[.agg us.toArray] w fun e w' => e = .returned (.bool (tb k.ok)) ∧ Below w.heap.size w w' := by
  have ho' := ho
  obtain ⟨A1, c1, A2, c2, f1, f2, rfl, w0, o1, o2, rfl⟩ := ho.oKind
  have hw1 : Below w.heap.size w (w.alloc (.cells #[.int .i64 k.sort, .slice A1 k.names.length c1, .slice A2 k.kids.length c2] 47)) := (Below.refl _ _).alloc (Nat.le_refl _) _
  have HO := hide (ho'.below hw1 hf)
  have hf2 := (hf.mono hw1.size)
  clear ho ho' o1 o2
  go_enter Try.func45, Try.ntmps45
  go_wp2_with fail
  refine (partsKind_any k _ _ 1 _ _ (by omega) HO.out hf2 hbk (by omega) (by omega)).mono ?_
  rintro e w2 ⟨rfl, hb⟩
  have hb' := hw1.trans (hb.mono hw1.size)
  by_cases h : k.ok
  · rw [Kind.partsR_yes h]
    have HT := hide (tb_true h)
    have hp := k.parts_eq
    have h1 : (0 : Int) < k.parts := by omega
    have h2 : (k.parts : Int) ≤ 40 := by have := h.2; omega
    clear hp h
    go_wp2
    go_ret
    exact ⟨ret_bool (by rw [HT.out]; simpa using h1), hb'⟩
  · rw [Kind.partsR_no h]
    have HT := hide (tb_false h)
    clear h
    go_wp2
    go_ret
    exact ⟨ret_bool HT.out.symm, hb'⟩

end Go.Proofs.Ytbjblchhenmgjaa
namespace Go.Proofs.Ytbjblchhenmgjaa
open Go.ChangeShapes Go.WideShapes Go.ChangeAt Go.RowKit

theorem grownBy_setCell (w : World) (p : Addr) (u : Value) : w.grownBy (w.setCell p u) (some p.block) :=
  ⟨rfl, rfl, rfl, by simp, fun k _ hn => Below.heap_setCell w p u k (fun e => hn (congrArg some e))⟩
theorem grownBy_below {w w' : World} (h : Below w.heap.size w w') (r : Option Nat) : w.grownBy w' r := ⟨h.os, h.tape, h.output, h.size, fun k hk _ => h.block k hk⟩
theorem Row.grown {w w' : World} {g : Nat} {e : TypeId} {cs : List Value} {r : Option Nat} (h : Row w g e cs) (hg : w.grownBy w' r) (hn : r ≠ some g) : Row w' g e cs := (hg.block g h.lt (fun e => hn e.symm)).trans h
theorem Ow.cell1 {w : World} : ∀ {d : D} {y : Value} {fp : List Nat}, Ow w d y fp → y.oneCell' = true
  | .v x, y, fp, h => by
    unfold Ow at h
    obtain ⟨rfl, h, _⟩ := h
    cases y <;> first | rfl | exact h.elim
  | .s k n l, y, fp, h => by
    obtain ⟨A, c, rfl, _⟩ := h.slice
    rfl
theorem OwC.cell1 {w : World} : ∀ (l : List D) {us : List Value} {fp : List Nat}, OwC w l us fp → ∀ u ∈ us, u.oneCell' = true
  | [], us, fp, h, u, hu => by
    cases us with
    | nil => cases hu
    | cons _ _ => exact h.elim
  | d :: r, us, fp, h, u, hu => by
    cases us with
    | nil => cases hu
    | cons y us =>
      obtain ⟨f1, f2, h1, h2, _⟩ := h
      rcases List.mem_cons.1 hu with rfl | hu
      · exact h1.cell1
      · exact OwC.cell1 r h2 u hu

section
variable {α : Type} {w w' : World} {B : Nat} {e : TypeId} {k : Nat} {f : α → List D} {v v' : Value} {l : List α} {us : List Value} {fi : List Nat}
theorem OwS.kept {r : Option Nat} (h : OwS w B e k f v l us fi) (hg : w.grownBy w' r) (hr : ∀ g, r = some g → g ∉ fi ∧ v.ownBlock ≠ some g) : OwS w' B e k f v l us fi := by
  refine ⟨h.own.kept hg ?_, h.cells.grown' hg h.new.lt (fun g hg => (hr g hg).1), h.new.grown hg (fun g hg => (hr g hg).1), h.out⟩
  cases hv : v.ownBlock with
  | none => exact .inl rfl
  | some b => exact .inr (fun e => (hr b e.symm).2 hv)
theorem OwS.setCell (h : OwS w B e k f v l us fi) {p : Addr} (hp : p.block ∉ fi) (hv : v.ownBlock ≠ some p.block) (u : Value) : OwS (w.setCell p u) B e k f v l us fi :=
  h.kept (grownBy_setCell w p u) (fun g hg => by injection hg with hg; subst hg; exact ⟨hp, hv⟩)
theorem OwS.from (h : OwS w B e k f v l us fi) {g : Nat} (hg : v.ownBlock = some g) : B ≤ g := (h.own.lt g hg).1
theorem OwS.low (h : OwS w B e k f v l us fi) {g : Nat} (hg : g < B) : v.ownBlock ≠ some g := fun e => by have := h.from e; omega
theorem OwS.nlow (h : OwS w B e k f v l us fi) {g : Nat} (hg : g < B) : g ∉ fi := h.new.out hg
theorem OwS.pushL (h : OwS w B e k f v l us fi) (r : List α) {ux : List Value} {fx : List Nat} (hx : OwC w (r.flatMap f) ux fx) (hn : New w (fi ++ fx) B) (ho : ∀ g, v.ownBlock = some g → g ∉ fx)
    (hown' : w'.ownsRow B e k v' (l.length + r.length) (us ++ ux)) (hg : w.grownBy w' v.ownBlock) (ha : v'.ownBlock = v.ownBlock ∨ v'.ownBlock = some w.heap.size) :
    OwS w' B e k f v' (l ++ r) (us ++ ux) (fi ++ fx) := by
  have hr : ∀ g, v.ownBlock = some g → g ∉ fi ++ fx := fun g hg hm => by
    rcases List.mem_append.1 hm with hm | hm
    · exact h.out g hg hm
    · exact ho g hg hm
  have hc : OwC w ((l ++ r).flatMap f) (us ++ ux) (fi ++ fx) := by
    rw [List.flatMap_append]
    exact h.cells.append hx
  refine ⟨by rw [List.length_append]; exact hown', hc.grown' hg hn.lt hr, hn.grown hg hr, fun g hgv hm => ?_⟩
  rcases ha with ha | ha
  · exact hr g (ha ▸ hgv) hm
  · rw [ha] at hgv
    injection hgv with hgv
    subst hgv
    exact Nat.lt_irrefl _ (hn.lt _ hm)
/-- what such a slice looks like -/
theorem OwS.form (h : OwS w B e k f v l us fi) : ∃ A c, v = .slice A l.length c := by
  rcases h.own.2 with ⟨rfl, h0⟩ | ⟨g, cap, cur, rfl, _⟩
  · exact ⟨_, _, by rw [h0]⟩
  · exact ⟨_, _, rfl⟩

/-- what it reads as, and of which blocks -/
theorem OwS.toOw' (h : OwS w B e k f v l us fi) : ∃ fp, Ow w (.s k l.length (l.flatMap f)) v fp ∧ New w fp B ∧ ∀ g ∈ fp, v.ownBlock = some g ∨ g ∈ fi := by
  have hl := h.cells.length
  have hu := h.own.1
  rcases h.own.2 with ⟨rfl, hn⟩ | ⟨g, cap, cur, rfl, hB, hg, h1, h2, h3, h4⟩
  · refine ⟨[], ?_, New.nil _ _, fun g hg => by cases hg⟩
    unfold Ow
    exact ⟨by rw [← hl, hu], none, 0, by rw [hn], by omega, by simp [maxLen], .inl ⟨hn, rfl⟩⟩
  · have hrow : Row w g e cur.toList := by simpa [Row] using hg
    by_cases h0 : l.length = 0
    · refine ⟨[], ?_, New.nil _ _, fun g hg => by cases hg⟩
      unfold Ow
      exact ⟨by rw [← hl, hu], _, cap, rfl, h1, h2, .inl ⟨h0, rfl⟩⟩
    · refine ⟨g :: fi, ?_, ⟨h.new.fr.cons hB hrow.lt, List.nodup_cons.2 ⟨h.out g rfl, h.new.nd⟩, fun b hb => ?_⟩, fun b hb => ?_⟩
      · unfold Ow
        refine ⟨by rw [← hl, hu], _, cap, rfl, h1, h2, .inr ⟨by omega, g, 0, fi, rfl, ?_, rfl⟩⟩
        refine OwC.row _ h.cells (fun j u hj => ?_)
        have hj' : j < us.length := (List.getElem?_eq_some_iff.1 hj).1
        rw [Nat.zero_add, hrow.cell]
        rw [← h4, List.getElem?_take] at hj
        split at hj
        · exact hj
        · cases hj
      · rcases List.mem_cons.1 hb with rfl | hb
        · exact Unf.row hrow
        · exact h.new.uf b hb
      · rcases List.mem_cons.1 hb with rfl | hb
        · exact .inl rfl
        · exact .inr hb

/-- where the new elements lie -/
def SrcAt (w : World) (ur : List Value) (A : Option Addr) (m c : Nat) : Prop := (A = none ∧ m = 0) ∨ ∃ ad, A = some ad ∧ ∀ j u, ur[j]? = some u → w.cell? (ad.add j) = some u

theorem run_app_none {P : Program} {w : World} (base : Nat) (t ty e : TypeId) (i : TypeInfo) (size : Nat) (ht : P.underlying t = some (.slice e)) (hi : P.info? e = some i)
    (v : Value) (n : Nat) (xs : List Value) (c : Nat) (hown : w.ownsRow base e size v n xs) :
    (Builtin.append_ #[t, t] ty #[v, .slice none 0 c]).run P w = .ok v w := by
  rcases hown.2 with ⟨rfl, rfl⟩ | ⟨g, cap, cur, rfl, _, _, hnc, _⟩
  · simp [Builtin.append_, run_underlying ht, sizeOf, typeInfo, hi, Builtin.lenOf, Builtin.firstCells]
  · simp [Builtin.append_, run_underlying ht, sizeOf, typeInfo, hi, Builtin.lenOf, Builtin.firstCells, hnc, storeCells]
theorem run_app {P : Program} (t ty e : TypeId) (i : TypeInfo) (z : Value) (k bytes : Nat) (ht : P.underlying t = some (.slice e)) (hi : P.info? e = some i) (hz : i.zero = some z) (hs : i.size = k) (hy : i.bytes = bytes) (hzs : z.cells.size = k) (hk0 : 0 < k)
    (hk : ∀ x, (f x).length = k) (h : OwS w B e k f v l us fi) (r : List α) {ur : List Value} {fr : List Nat} (hr : OwC w (r.flatMap f) ur fr) (hn : New w (fi ++ fr) B) (ho : ∀ g, v.ownBlock = some g → g ∉ fr)
    (A : Option Addr) (m c : Nat) (hm : m = r.length) (hsrc : SrcAt w ur A m c) (h63 : l.length + m ≤ maxLen) (hb : (l.length + m) * bytes ≤ 140737488355328) (hB : B ≤ w.heap.size) :
    ∃ A' n' c' w', (Builtin.append_ #[t, t] ty #[v, .slice A m c]).run P w = .ok (.slice A' n' c') w' ∧ n' = l.length + r.length ∧ OwS w' B e k f (.slice A' n' c') (l ++ r) (us ++ ur) (fi ++ fr) ∧ GB w w' v (.slice A' n' c') := by
  subst hm
  have hl : ur.length = r.length * k := by rw [hr.length, flat_len f k hk]
  rcases hsrc with ⟨rfl, h0⟩ | ⟨ad, rfl, hc⟩
  · have hr0 : r = [] := List.eq_nil_of_length_eq_zero h0
    subst hr0
    obtain ⟨A', c', rfl⟩ := h.form
    obtain rfl : ur = [] := List.eq_nil_of_length_eq_zero (by simpa using hl)
    have hf : fr = [] := by simpa [OwC] using hr
    subst hf
    refine ⟨A', l.length, c', w, run_app_none (P := P) (w := w) B t ty e i k ht hi _ _ us c h.own, by simp, ?_, GB.refl _ _⟩
    simpa using h
  · obtain ⟨v', w', hrun, h2, h3, _, h5⟩ := run_append_own_at (P := P) w B t ty e i z k bytes ht hi hz hs hy hzs hk0 v l.length us h.own ad r.length c ur hl hc (OwC.cell1 _ hr) h63 hb hB
    have hnew := h.pushL r hr hn ho h2 h3 h5
    obtain ⟨A', c', rfl⟩ := hnew.form
    exact ⟨A', _, c', w', hrun, by simp, hnew, GB.step h3 h5⟩
end

section
variable {P : Program} {ops : Array Oper} {rest : List Oper} {o : Oper} {a : Act} {K : Act → World → Prop} {Q : Exit → Act → World → Prop} {E : Prop}
variable {α : Type} {w : World} {B : Nat} {e : TypeId} {k : Nat} {f : α → List D} {v : Value} {l : List α} {us : List Value} {fi : List Nat}
theorem wp_app (s x : Operand) (t : TypeId) (ho' : o.op = .call { callee := .builtin .append, args := #[s, x], argTypes := #[t, t] })
    (i : TypeInfo) (z : Value) (bytes : Nat) (ht : P.underlying t = some (.slice e)) (hi : P.info? e = some i) (hz : i.zero = some z) (hs : i.size = k) (hy : i.bytes = bytes) (hzs : z.cells.size = k) (hk0 : 0 < k)
    (hk : ∀ x, (f x).length = k) (hv : a.eval s = v) (h : OwS w B e k f v l us fi) (r : List α) {ur : List Value} {fr : List Nat} (hr : OwC w (r.flatMap f) ur fr) (hn : New w (fi ++ fr) B) (ho : ∀ g, v.ownBlock = some g → g ∉ fr)
    (A : Option Addr) (m c : Nat) (hx : a.eval x = .slice A m c) (hm : m = r.length) (hsrc : SrcAt w ur A m c) (h63 : l.length + m ≤ 1099511627776) (hbt : bytes ≤ 128) (hB : B ≤ w.heap.size)
    (hK : ∀ A' n' c' w', n' = l.length + r.length → OwS w' B e k f (.slice A' n' c') (l ++ r) (us ++ ur) (fi ++ fr) → GB w w' v (.slice A' n' c') → K (a.put o.dst (.slice A' n' c')) w') : o.wp P a w K Q := by
  obtain ⟨A', n', c', w', hrun, h1, h2, h3⟩ := run_app (P := P) t o.type e i z k bytes ht hi hz hs hy hzs hk0 hk h r hr hn ho A m c hm hsrc (by unfold maxLen; omega) (Nat.le_trans (Nat.mul_le_mul h63 hbt) (by decide)) hB
  unfold Oper.wp execOp
  simp only [ho', resolve, invoke, builtin, Sem.run_bind, Sem.run_pure, Result.andThen_ok, List.map_toArray, List.map_cons, List.map_nil, hv, hx, hrun]
  exact hK A' n' c' w' h1 h2 h3
theorem wpl_app (hgd : o.guard = none) (s x : Operand) (t : TypeId) (ho' : o.op = .call { callee := .builtin .append, args := #[s, x], argTypes := #[t, t] })
    (i : TypeInfo) (z : Value) (bytes : Nat) (ht : P.underlying t = some (.slice e)) (hi : P.info? e = some i) (hz : i.zero = some z) (hs : i.size = k) (hy : i.bytes = bytes) (hzs : z.cells.size = k) (hk0 : 0 < k)
    (hk : ∀ x, (f x).length = k) (hv : a.eval s = v) (h : OwS w B e k f v l us fi) (r : List α) {ur : List Value} {fr : List Nat} (hr : OwC w (r.flatMap f) ur fr) (hn : New w (fi ++ fr) B) (ho : ∀ g, v.ownBlock = some g → g ∉ fr)
    (A : Option Addr) (m c : Nat) (hx : a.eval x = .slice A m c) (hm : m = r.length) (hsrc : SrcAt w ur A m c) (h63 : l.length + m ≤ 1099511627776) (hbt : bytes ≤ 128) (hB : B ≤ w.heap.size)
    (hK : ∀ A' n' c' w', n' = l.length + r.length → OwS w' B e k f (.slice A' n' c') (l ++ r) (us ++ ur) (fi ++ fr) → GB w w' v (.slice A' n' c') → wpList P ops Q rest (a.put o.dst (.slice A' n' c')) w') : wpList P ops Q (o :: rest) a w :=
  wpList_plain hgd fun _ hq => wp_app s x t ho' i z bytes ht hi hz hs hy hzs hk0 hk hv h r hr hn ho A m c hx hm hsrc h63 hbt hB fun A' n' c' w' h1 h2 h3 => hq _ _ (hK A' n' c' w' h1 h2 h3)
theorem step_app (hgd : o.guard = none) (s x : Operand) (t : TypeId) (ho' : o.op = .call { callee := .builtin .append, args := #[s, x], argTypes := #[t, t] })
    (i : TypeInfo) (z : Value) (bytes : Nat) (ht : P.underlying t = some (.slice e)) (hi : P.info? e = some i) (hz : i.zero = some z) (hs : i.size = k) (hy : i.bytes = bytes) (hzs : z.cells.size = k) (hk0 : 0 < k)
    (hk : ∀ x, (f x).length = k) (hv : a.eval s = v) (h : OwS w B e k f v l us fi) (r : List α) {ur : List Value} {fr : List Nat} (hr : OwC w (r.flatMap f) ur fr) (hn : New w (fi ++ fr) B) (ho : ∀ g, v.ownBlock = some g → g ∉ fr)
    (A : Option Addr) (m c : Nat) (hx : a.eval x = .slice A m c) (hm : m = r.length) (hsrc : SrcAt w ur A m c) (h63 : l.length + m ≤ 1099511627776) (hbt : bytes ≤ 128) (hB : B ≤ w.heap.size)
    (hK : ∀ A' n' c' w', n' = l.length + r.length → OwS w' B e k f (.slice A' n' c') (l ++ r) (us ++ ur) (fi ++ fr) → GB w w' v (.slice A' n' c') → K (a.put o.dst (.slice A' n' c')) w') :
    if Region.wanted o (yielded ops a.tmps) = true then Oper.wp P o a w K Q else E := by
  have hw : Region.wanted o (yielded ops a.tmps) = true := by simp [Region.wanted, hgd]
  rw [if_pos hw]
  exact wp_app s x t ho' i z bytes ht hi hz hs hy hzs hk0 hk hv h r hr hn ho A m c hx hm hsrc h63 hbt hB hK
end
/-- one element in a block of its own, laid out just now -/
theorem SrcAt.new (w : World) (cs : List Value) (t : TypeId) (m c : Nat) : SrcAt (w.alloc (.cells cs.toArray t)) cs (some ⟨w.heap.size, 0, none⟩) m c :=
  .inr ⟨_, rfl, fun j u hu => World.news_of_block (heap_alloc_new w _) j u (by simpa using hu)⟩
/-- a slice that is read -/
theorem Ow.srcAt {α : Type} {w : World} {f : α → List D} {k : Nat} {l : List α} {A : Option Addr} {n c : Nat} {fp : List Nat} (h : Ow w (.s k l.length (l.flatMap f)) (.slice A n c) fp) :
    ∃ us f2, OwC w (l.flatMap f) us f2 ∧ SrcAt w us A n c ∧ f2 ⊆ fp := by
  unfold Ow at h
  obtain ⟨hl, A', c', e, _, _, h⟩ := h
  injection e with e1 e2 e3
  subst e1 e2 e3
  rcases h with ⟨h0, rfl⟩ | ⟨h0, g, off, f1, rfl, ho, rfl⟩
  · have hl0 : l = [] := List.eq_nil_of_length_eq_zero h0
    subst hl0
    refine ⟨[], [], by simp [OwC], ?_, by simp⟩
    cases A with
    | none => exact .inl ⟨rfl, rfl⟩
    | some ad => exact .inr ⟨ad, rfl, fun j u hu => by simp at hu⟩
  · obtain ⟨us, hu, hc, ho⟩ := ho.cells
    refine ⟨us, f1, ho, .inr ⟨_, rfl, fun j u hj => ?_⟩, fun b hb => List.mem_cons_of_mem _ hb⟩
    rw [Addr.add_lit]
    exact hc j u hj
end Go.Proofs.Ytbjblchhenmgjaa
namespace Go.Proofs.Ytbjblchhenmgjaa
open Go.ChangeShapes Go.WideShapes Go.ChangeAt Go.RowKit

theorem OwC.plain {w : World} : ∀ (l : List D) {us : List Value} {fp : List Nat}, (∀ d ∈ l, ∃ x, d = .v x) → OwC w l us fp → fp = []
  | [], us, fp, _, h => by
    cases us with
    | nil => exact h
    | cons _ _ => exact h.elim
  | d :: r, us, fp, hd, h => by
    cases us with
    | nil => exact h.elim
    | cons y us =>
      obtain ⟨f1, f2, h1, h2, rfl⟩ := h
      obtain ⟨x, rfl⟩ := hd d (by simp)
      unfold Ow at h1
      rw [h1.2.2, OwC.plain r (fun d hd' => hd d (by simp [hd'])) h2]
      rfl
theorem ints_plain (l : List Int) : ∀ d ∈ l.flatMap intC, ∃ x, d = .v x := fun d hd => by
  obtain ⟨x, _, hx⟩ := List.mem_flatMap.1 hd
  simp only [intC, List.mem_singleton] at hx
  exact ⟨_, hx⟩
theorem strs_plain (l : List ByteArray) : ∀ d ∈ l.flatMap strC, ∃ x, d = .v x := fun d hd => by
  obtain ⟨x, _, hx⟩ := List.mem_flatMap.1 hd
  simp only [strC, List.mem_singleton] at hx
  exact ⟨_, hx⟩
/-- a slice of numbers, as what is appended -/
theorem Ow.srcInts {w : World} {l : List Int} {A : Option Addr} {n c : Nat} {fp : List Nat} (h : Ow w (.s 1 l.length (l.flatMap intC)) (.slice A n c) fp) : ∃ us, OwC w (l.flatMap intC) us [] ∧ SrcAt w us A n c := by
  obtain ⟨us, f2, h1, h2, _⟩ := h.srcAt
  obtain rfl := OwC.plain _ (ints_plain l) h1
  exact ⟨us, h1, h2⟩
theorem Ow.srcStrs {w : World} {l : List ByteArray} {A : Option Addr} {n c : Nat} {fp : List Nat} (h : Ow w (.s 1 l.length (l.flatMap strC)) (.slice A n c) fp) : ∃ us, OwC w (l.flatMap strC) us [] ∧ SrcAt w us A n c := by
  obtain ⟨us, f2, h1, h2, _⟩ := h.srcAt
  obtain rfl := OwC.plain _ (strs_plain l) h1
  exact ⟨us, h1, h2⟩

/-- a result that lies in a block of its own -/
theorem ret_row {P : Program} {fn : Func} {p : Tmp} {ty : TypeId} (h : fn.results = #[.cell p ty]) (tmps : Array Value) (w : World) (g : Nat) (t : TypeId) (cs : List Value) (hr : Row w g t cs) (d : TypeDesc)
    (hp : tmps.getD p undef = .pointer (some ⟨g, 0, none⟩)) (hu : P.underlying ty = some d) (hd : (match d with | .struct _ | .array _ _ => true | _ => false) = true) (hi : (P.info? ty).map (·.size) = some cs.length) :
    (results fn tmps).run P w = .ok (.agg cs.toArray) w := results_cell_row h tmps w g t cs.toArray (0, 0) d hp hr hu hd (by simpa using hi)
theorem ret_row_tmp {P : Program} {fn : Func} {p u : Tmp} {ty : TypeId} (h : fn.results = #[.cell p ty, .tmp u]) (tmps : Array Value) (w : World) (g : Nat) (t : TypeId) (cs : List Value) (hr : Row w g t cs) (d : TypeDesc) (v : Value)
    (hp : tmps.getD p undef = .pointer (some ⟨g, 0, none⟩)) (hv : tmps.getD u undef = v) (hu : P.underlying ty = some d) (hd : (match d with | .struct _ | .array _ _ => true | _ => false) = true) (hi : (P.info? ty).map (·.size) = some cs.length) :
    (results fn tmps).run P w = .ok (.tuple #[.agg cs.toArray, v]) w := by
  rw [results_cell_tmp h, hp, hv]
  simp [asAddr, run_loadVar_row w g t ty cs.toArray (0, 0) d hr hu hd (by simpa using hi), Result.andThen]
theorem kc {B : Nat} {W w' : World} {p : Addr} {v : Value} (h : W.cell? p = some v) (hb : Below B W w') (hl : p.block < B) : w'.cell? p = some v := (hb.cell hl).trans h
theorem Ow.nil_ {α : Type} (w : World) (k : Nat) (f : α → List D) : Ow w (.s k ([] : List α).length (([] : List α).flatMap f)) (.slice none 0 0) [] := by
  unfold Ow
  exact ⟨by simp, none, 0, rfl, Nat.le_refl _, by simp [maxLen], .inl ⟨rfl, rfl⟩⟩
theorem grown_refl (w : World) (r : Option Nat) : w.grownBy w r := ⟨rfl, rfl, rfl, Nat.le_refl _, fun _ _ _ => rfl⟩
theorem below_of_grown {w w' : World} {g B : Nat} (h : w.grownBy w' (some g)) (hB : B ≤ g) (hs : B ≤ w.heap.size) : Below B w w' :=
  ⟨h.os, h.tape, h.output, h.size, fun i hi => h.block i (by omega) (fun e => by injection e with e; omega)⟩

/-- the cells of a row, stored one behind the other -/
def putN (w : World) (g : Nat) : Nat → List Value → World
  | _, [] => w
  | i, v :: r => putN (w.setCell ⟨g, i, none⟩ v) g (i + 1) r
theorem Row.setN {g : Nat} {e : TypeId} : ∀ (vs pre cs : List Value) {w : World}, vs.length = cs.length → Row w g e (pre ++ cs) → Row (putN w g pre.length vs) g e (pre ++ vs)
  | [], pre, [], w, _, h => h
  | [], _, _ :: _, _, hl, _ => by simp at hl
  | _ :: _, _, [], _, hl, _ => by simp at hl
  | v :: vs, pre, c :: cs, w, hl, h => by
    have h1 := h.set pre.length v
    have e1 : (pre ++ c :: cs).set pre.length v = (pre ++ [v]) ++ cs := by simp
    rw [e1] at h1
    have h2 := Row.setN vs (pre ++ [v]) cs (by simpa using hl) h1
    simp only [List.length_append, List.length_cons, List.length_nil, List.append_assoc, List.cons_append, List.nil_append] at h2
    exact h2
theorem Row.setAll {w : World} {g : Nat} {e : TypeId} {cs : List Value} (h : Row w g e cs) (vs : List Value) (hl : vs.length = cs.length) : Row (putN w g 0 vs) g e vs := Row.setN vs [] cs hl h
theorem setN_grown {w0 : World} {g : Nat} : ∀ (vs : List Value) (i : Nat) {w : World}, w0.grownBy w (some g) → w0.grownBy (putN w g i vs) (some g)
  | [], _, _, h => h
  | v :: vs, i, w, h => setN_grown vs (i + 1) (only_setCell h (.inl rfl) v)

structure Two {α β : Type} (w : World) (b B : Nat) (T : TypeId) (mk : Value → Value → List Value) (e1 : TypeId) (k1 : Nat) (f1 : α → List D) (v1 : Value) (l1 : List α) (us1 : List Value) (fi1 : List Nat)
    (e2 : TypeId) (k2 : Nat) (f2 : β → List D) (v2 : Value) (l2 : List β) (us2 : List Value) (fi2 : List Nat) : Prop where
  box : Row w b T (mk v1 v2)
  one : OwS w B e1 k1 f1 v1 l1 us1 fi1
  two : OwS w B e2 k2 f2 v2 l2 us2 fi2
  hb : b < B
  dis : ∀ g, v1.ownBlock = some g → v2.ownBlock ≠ some g
  o12 : ∀ g, v1.ownBlock = some g → g ∉ fi2
  o21 : ∀ g, v2.ownBlock = some g → g ∉ fi1
  ff : ∀ g ∈ fi1, g ∉ fi2

section
variable {α β : Type} {w w1 : World} {b B : Nat} {T : TypeId} {mk : Value → Value → List Value} {e1 : TypeId} {k1 : Nat} {f1 : α → List D} {v1 v1' : Value} {l1 l1' : List α} {us1 us1' : List Value} {fi1 fi1' : List Nat}
    {e2 : TypeId} {k2 : Nat} {f2 : β → List D} {v2 v2' : Value} {l2 l2' : List β} {us2 us2' : List Value} {fi2 fi2' : List Nat}
theorem Two.below (h : Two w b B T mk e1 k1 f1 v1 l1 us1 fi1 e2 k2 f2 v2 l2 us2 fi2) (hb : Below w.heap.size w w1) : Two w1 b B T mk e1 k1 f1 v1 l1 us1 fi1 e2 k2 f2 v2 l2 us2 fi2 :=
  ⟨h.box.below hb h.box.lt, h.one.below (C := 0) hb, h.two.below (C := 0) hb, h.hb, h.dis, h.o12, h.o21, h.ff⟩
theorem Two.alloc (h : Two w b B T mk e1 k1 f1 v1 l1 us1 fi1 e2 k2 f2 v2 l2 us2 fi2) (o : Obj) : Two (w.alloc o) b B T mk e1 k1 f1 v1 l1 us1 fi1 e2 k2 f2 v2 l2 us2 fi2 := h.below ((Below.refl _ _).alloc (Nat.le_refl _) o)
theorem Two.drewN (h : Two w b B T mk e1 k1 f1 v1 l1 us1 fi1 e2 k2 f2 v2 l2 us2 fi2) (n : Nat) : Two (w.drewN n) b B T mk e1 k1 f1 v1 l1 us1 fi1 e2 k2 f2 v2 l2 us2 fi2 := h.below ⟨rfl, rfl, rfl, Nat.le_refl _, fun _ _ => rfl⟩
theorem Two.row1 (h : Two w b B T mk e1 k1 f1 v1 l1 us1 fi1 e2 k2 f2 v2 l2 us2 fi2) (hg : GB w w1 v1 v1') : Row w1 b T (mk v1 v2) := hg.row h.box (h.one.low h.hb)
theorem Two.row2 (h : Two w b B T mk e1 k1 f1 v1 l1 us1 fi1 e2 k2 f2 v2 l2 us2 fi2) (hg : GB w w1 v2 v2') : Row w1 b T (mk v1 v2) := hg.row h.box (h.two.low h.hb)
theorem gb_new {w w1 : World} {v v' : Value} {g : Nat} (hg : GB w w1 v v') (h : v'.ownBlock = some g) : v.ownBlock = some g ∨ w.heap.size ≤ g := by
  rcases hg.at' with e | ⟨x, e, hx⟩
  · exact .inl (e ▸ h)
  · rw [e] at h; injection h with h; exact .inr (h ▸ hx)
/-- the second slice grew, and is stored -/
theorem Two.put2 (h : Two w b B T mk e1 k1 f1 v1 l1 us1 fi1 e2 k2 f2 v2 l2 us2 fi2) (hg : GB w w1 v2 v2') (hn : OwS w1 B e2 k2 f2 v2' l2' us2' fi2') (i : Nat) (hmk : (mk v1 v2).set i v2' = mk v1 v2')
    (hf : ∀ g ∈ fi2', g ∈ fi2 ∨ ((v1.ownBlock ≠ some g) ∧ g ∉ fi1)) :
    Two (w1.setCell ⟨b, i, none⟩ v2') b B T mk e1 k1 f1 v1 l1 us1 fi1 e2 k2 f2 v2' l2' us2' fi2' := by
  have h1 : OwS w1 B e1 k1 f1 v1 l1 us1 fi1 := h.one.kept hg.grown (fun g hg => ⟨h.o21 g hg, fun e => h.dis g e hg⟩)
  refine ⟨hmk ▸ (h.row2 hg).set i v2', h1.setCell (h.one.nlow h.hb) (h.one.low h.hb) _, hn.setCell (hn.nlow h.hb) (hn.low h.hb) _, h.hb, fun g e1 e2 => ?_, fun g e hm => ?_, fun g e hm => ?_, fun g hm hm2 => ?_⟩
  · rcases gb_new hg e2 with e | e
    · exact h.dis g e1 e
    · exact absurd (h.one.lt g e1) (by omega)
  · rcases hf g hm with hm | hm
    · exact h.o12 g e hm
    · exact hm.1 e
  · rcases gb_new hg e with e | e
    · exact h.o21 g e hm
    · exact absurd (h.one.new.lt g hm) (by omega)
  · rcases hf g hm2 with hm2 | hm2
    · exact h.ff g hm hm2
    · exact hm2.2 hm
/-- the first slice grew, and is stored -/
theorem Two.put1 (h : Two w b B T mk e1 k1 f1 v1 l1 us1 fi1 e2 k2 f2 v2 l2 us2 fi2) (hg : GB w w1 v1 v1') (hn : OwS w1 B e1 k1 f1 v1' l1' us1' fi1') (i : Nat) (hmk : (mk v1 v2).set i v1' = mk v1' v2)
    (hf : ∀ g ∈ fi1', g ∈ fi1 ∨ ((v2.ownBlock ≠ some g) ∧ g ∉ fi2)) :
    Two (w1.setCell ⟨b, i, none⟩ v1') b B T mk e1 k1 f1 v1' l1' us1' fi1' e2 k2 f2 v2 l2 us2 fi2 := by
  have h1 : OwS w1 B e2 k2 f2 v2 l2 us2 fi2 := h.two.kept hg.grown (fun g hg => ⟨h.o12 g hg, fun e => h.dis g hg e⟩)
  refine ⟨hmk ▸ (h.row1 hg).set i v1', hn.setCell (hn.nlow h.hb) (hn.low h.hb) _, h1.setCell (h.two.nlow h.hb) (h.two.low h.hb) _, h.hb, fun g e1 e2 => ?_, fun g e hm => ?_, fun g e hm => ?_, fun g hm hm2 => ?_⟩
  · rcases gb_new hg e1 with e | e
    · exact h.dis g e e2
    · exact absurd (h.two.lt g e2) (by omega)
  · rcases gb_new hg e with e | e
    · exact h.o12 g e hm
    · exact absurd (h.two.new.lt g hm) (by omega)
  · rcases hf g hm with hm | hm
    · exact h.o21 g e hm
    · exact hm.1 e
  · rcases hf g hm with hm | hm
    · exact h.ff g hm hm2
    · exact hm.2 hm2
/-- what is below the box's making stays -/
theorem Two.frame1 (h : Two w b B T mk e1 k1 f1 v1 l1 us1 fi1 e2 k2 f2 v2 l2 us2 fi2) (hg : GB w w1 v1 v1') (hs : B ≤ w.heap.size) (i : Nat) (u : Value) {B0 : Nat} (h0 : B0 ≤ b) : Below B0 w (w1.setCell ⟨b, i, none⟩ u) := by
  have := h.hb
  exact (hg.toBelow (B := B0) (by omega) (fun g e => by have := h.one.from e; omega)).setCell (p := ⟨b, i, none⟩) h0 u
theorem Two.frame2 (h : Two w b B T mk e1 k1 f1 v1 l1 us1 fi1 e2 k2 f2 v2 l2 us2 fi2) (hg : GB w w1 v2 v2') (hs : B ≤ w.heap.size) (i : Nat) (u : Value) {B0 : Nat} (h0 : B0 ≤ b) : Below B0 w (w1.setCell ⟨b, i, none⟩ u) := by
  have := h.hb
  exact (hg.toBelow (B := B0) (by omega) (fun g e => by have := h.two.from e; omega)).setCell (p := ⟨b, i, none⟩) h0 u
/-- at the end: two values of the call's own -/
theorem Two.toOw (h : Two w b B T mk e1 k1 f1 v1 l1 us1 fi1 e2 k2 f2 v2 l2 us2 fi2) : ∃ p1 p2, Ow w (.s k1 l1.length (l1.flatMap f1)) v1 p1 ∧ Ow w (.s k2 l2.length (l2.flatMap f2)) v2 p2 ∧ New w (p1 ++ p2) B := by
  obtain ⟨p1, o1, n1, s1⟩ := h.one.toOw'
  obtain ⟨p2, o2, n2, s2⟩ := h.two.toOw'
  refine ⟨p1, p2, o1, o2, ⟨n1.fr.app n2.fr, List.nodup_append.2 ⟨n1.nd, n2.nd, fun a ha c hc e => ?_⟩, fun g hg => ?_⟩⟩
  · subst e
    rcases s1 a ha with h1 | h1 <;> rcases s2 a hc with h2 | h2
    · exact h.dis a h1 h2
    · exact h.o12 a h1 h2
    · exact h.o21 a h2 h1
    · exact h.ff a h1 h2
  · rcases List.mem_append.1 hg with hg | hg
    · exact n1.uf g hg
    · exact n2.uf g hg
end
end Go.Proofs.Ytbjblchhenmgjaa
