/-
  Disks behind a loss of power: the reference's copy of a disk (l41Copy). Printed by gen/cutc.py.
-/
import Derived.Test.YtdingkbggjehoaaCutI
import Derived.Deep.RegionHeld3
set_option linter.unusedVariables false
set_option linter.unusedSimpArgs false
namespace Go.Proofs.Ytdingkbggjehoaa
open Go.ChangeShapes Go.WideShapes Go.ChangeAt Go.RowKit

theorem info_DiskMove' : (Try.prog.info? 147).map (fun i => (i.zero, i.size, i.bytes)) = some (some (.agg #[.bool false, .string .empty]), 2, 24) := by kernel_rfl
theorem files_plain (l : List DiskFile) : ∀ d ∈ l.flatMap DiskFile.cells, ∃ x, d = .v x := fun d hd => by
  obtain ⟨x, _, hx⟩ := List.mem_flatMap.1 hd
  rw [DiskFile.cells_eq] at hx
  simp only [List.mem_cons, List.not_mem_nil, or_false] at hx
  rcases hx with rfl | rfl | rfl <;> exact ⟨_, rfl⟩
theorem moves_plain (l : List DiskMove) : ∀ d ∈ l.flatMap DiskMove.cells, ∃ x, d = .v x := fun d hd => by
  obtain ⟨x, _, hx⟩ := List.mem_flatMap.1 hd
  rw [DiskMove.cells_eq] at hx
  simp only [List.mem_cons, List.not_mem_nil, or_false] at hx
  rcases hx with rfl | rfl <;> exact ⟨_, rfl⟩
theorem Ow.srcP {α : Type} {w : World} {f : α → List D} {k : Nat} {l : List α} (hp : ∀ d ∈ l.flatMap f, ∃ x, d = .v x) {A : Option Addr} {n c : Nat} {fp : List Nat} (h : Ow w (.s k l.length (l.flatMap f)) (.slice A n c) fp) : ∃ us, OwC w (l.flatMap f) us [] ∧ SrcAt w us A n c := by
  obtain ⟨us, f2, h1, h2, _⟩ := h.srcAt
  obtain rfl := OwC.plain _ hp h1
  exact ⟨us, h1, h2⟩
theorem eval_get (a : Act) (t : Nat) : a.tmps[t]?.getD undef = a.eval (.tmp t) := by simp [Act.eval, Array.getD_eq_getD_getElem?]
theorem eval_put_ne (a : Act) {t j : Nat} (u : Value) (h : t ≠ j) : (a.put (some t) u).eval (.tmp j) = a.eval (.tmp j) := by
  simp [Act.put, Act.eval, Array.getD_eq_getD_getElem?, Array.getElem?_setIfInBounds, h]
theorem eval_put_eq (a : Act) {t : Nat} (u : Value) (h : t < a.tmps.size) : (a.put (some t) u).eval (.tmp t) = u := by
  simp [Act.put, Act.eval, Array.getD_eq_getD_getElem?, Array.getElem?_setIfInBounds, h]
/-- one slice of the copy: nothing yet (0), a new empty one in slot ta (1), what it shall hold in slot tp (2) -/
structure Ch {α : Type} (s ta tp : Nat) (e : TypeId) (k : Nat) (f : α → List D) (l : List α) (B : Nat) (a : Act) (w : World) (v : Value) (us : List Value) : Prop where
  own : OwS w B e k f v (if 2 ≤ s then l else []) us []
  t1 : s = 1 → a.eval (.tmp ta) = v
  t2 : 2 ≤ s → a.eval (.tmp tp) = v
section
variable {α : Type} {s ta tp : Nat} {e : TypeId} {k : Nat} {f : α → List D} {l : List α} {B : Nat} {a : Act} {w w' : World} {v : Value} {us : List Value}
theorem Ch.put (h : Ch s ta tp e k f l B a w v us) {t : Nat} (u : Value) (h1 : t ≠ ta) (h2 : t ≠ tp) : Ch s ta tp e k f l B (a.put (some t) u) w v us :=
  ⟨h.own, fun e => (eval_put_ne a u h1).trans (h.t1 e), fun e => (eval_put_ne a u h2).trans (h.t2 e)⟩
theorem Ch.kept {r : Option Nat} (h : Ch s ta tp e k f l B a w v us) (hg : w.grownBy w' r) (hr : ∀ g, r = some g → v.ownBlock ≠ some g) : Ch s ta tp e k f l B a w' v us :=
  ⟨h.own.kept hg (fun g e => ⟨by simp, hr g e⟩), h.t1, h.t2⟩
theorem Ch.alloc (h : Ch s ta tp e k f l B a w v us) (o : Obj) : Ch s ta tp e k f l B a (w.alloc o) v us := ⟨h.own.alloc o, h.t1, h.t2⟩
end
structure Cp (d : Disk) (A1 : Option Addr) (c1 : Nat) (A2 : Option Addr) (c2 : Nat) (A3 : Option Addr) (c3 : Nat) (w0 : World) (s1 s2 s3 : Nat) (a : Act) (w : World) (v1 v2 v3 : Value) (us1 us2 us3 : List Value) : Prop where
  sz : a.tmps.size = 16
  df : a.defers = []
  l1 : a.eval (.tmp 5) = .slice A1 d.files.length c1
  l2 : a.eval (.tmp 9) = .slice A2 d.names.length c2
  l3 : a.eval (.tmp 13) = .slice A3 d.moves.length c3
  p : a.eval (.tmp 2) = .pointer (some ⟨w0.heap.size + 1, 0, none⟩)
  q1 : Ch s1 3 6 143 3 DiskFile.cells d.files (w0.heap.size + 2) a w v1 us1
  q2 : Ch s2 7 10 9 1 strC d.names (w0.heap.size + 2) a w v2 us2
  q3 : Ch s3 11 14 147 2 DiskMove.cells d.moves (w0.heap.size + 2) a w v3 us3
  d12 : ∀ g, v1.ownBlock = some g → v2.ownBlock ≠ some g
  d13 : ∀ g, v1.ownBlock = some g → v3.ownBlock ≠ some g
  d23 : ∀ g, v2.ownBlock = some g → v3.ownBlock ≠ some g
  row : Row w w0.heap.size 83 [.slice A1 d.files.length c1, .slice A2 d.names.length c2, .slice A3 d.moves.length c3]
  zr : Row w (w0.heap.size + 1) 83 [.slice none 0 0, .slice none 0 0, .slice none 0 0]
  below : Below w0.heap.size w0 w
section
variable {d : Disk} {A1 : Option Addr} {c1 : Nat} {A2 : Option Addr} {c2 : Nat} {A3 : Option Addr} {c3 : Nat} {w0 : World} {s1 s2 s3 : Nat} {a : Act} {w w' : World} {v1 v2 v3 : Value} {us1 us2 us3 : List Value}
theorem Cp.lit1 (h : Cp d A1 c1 A2 c2 A3 c3 w0 0 s2 s3 a w v1 v2 v3 us1 us2 us3) : Cp d A1 c1 A2 c2 A3 c3 w0 1 s2 s3 (a.put (some 3) (.slice (some ⟨w.heap.size, 0, none⟩) 0 0)) (w.alloc (.cells #[] 143)) (.slice (some ⟨w.heap.size, 0, none⟩) 0 0) v2 v3 [] us2 us3 :=
  ⟨by simp [Act.put, h.sz], by simp [Act.put, h.df], (eval_put_ne a _ (by decide)).trans h.l1, (eval_put_ne a _ (by decide)).trans h.l2, (eval_put_ne a _ (by decide)).trans h.l3, (eval_put_ne a _ (by decide)).trans h.p,
    ⟨OwS.lit0 w (w0.heap.size + 2) h.zr.lt 143 3 DiskFile.cells, fun _ => eval_put_eq a _ (by rw [h.sz]; decide), fun e => by omega⟩,
    (h.q2.put _ (by decide) (by decide)).alloc _,
    (h.q3.put _ (by decide) (by decide)).alloc _,
    fun g e1 e2 => by have h1 := h.q2.own.lt g e2; have h2 : w.heap.size = g := (by injection e1); omega, fun g e1 e2 => by have h1 := h.q3.own.lt g e2; have h2 : w.heap.size = g := (by injection e1); omega, h.d23, h.row.alloc _, h.zr.alloc _, h.below.alloc h.below.size _⟩
theorem Cp.app1 {v' : Value} {us' : List Value} (h : Cp d A1 c1 A2 c2 A3 c3 w0 1 s2 s3 a w v1 v2 v3 us1 us2 us3) (ho : OwS w' (w0.heap.size + 2) 143 3 DiskFile.cells v' d.files us' []) (hg : GB w w' v1 v') : Cp d A1 c1 A2 c2 A3 c3 w0 2 s2 s3 (a.put (some 6) v') w' v' v2 v3 us' us2 us3 :=
  ⟨by simp [Act.put, h.sz], by simp [Act.put, h.df], (eval_put_ne a _ (by decide)).trans h.l1, (eval_put_ne a _ (by decide)).trans h.l2, (eval_put_ne a _ (by decide)).trans h.l3, (eval_put_ne a _ (by decide)).trans h.p,
    ⟨ho, fun e => by omega, fun _ => eval_put_eq a _ (by rw [h.sz]; decide)⟩,
    (h.q2.put _ (by decide) (by decide)).kept hg.grown (fun g e1 e2 => h.d12 g e1 e2),
    (h.q3.put _ (by decide) (by decide)).kept hg.grown (fun g e1 e2 => h.d13 g e1 e2),
    fun g e1 e2 => (gb_new hg e1).elim (fun e => h.d12 g e e2) (fun e => by have h1 := h.q2.own.lt g e2; omega), fun g e1 e2 => (gb_new hg e1).elim (fun e => h.d13 g e e2) (fun e => by have h1 := h.q3.own.lt g e2; omega), h.d23, hg.row h.row (h.q1.own.low (by omega)), hg.row h.zr (h.q1.own.low (by omega)), h.below.trans (hg.toBelow h.below.size (fun g e => by have := h.q1.own.from e; omega))⟩
theorem Cp.lit2 (h : Cp d A1 c1 A2 c2 A3 c3 w0 s1 0 s3 a w v1 v2 v3 us1 us2 us3) : Cp d A1 c1 A2 c2 A3 c3 w0 s1 1 s3 (a.put (some 7) (.slice (some ⟨w.heap.size, 0, none⟩) 0 0)) (w.alloc (.cells #[] 9)) v1 (.slice (some ⟨w.heap.size, 0, none⟩) 0 0) v3 us1 [] us3 :=
  ⟨by simp [Act.put, h.sz], by simp [Act.put, h.df], (eval_put_ne a _ (by decide)).trans h.l1, (eval_put_ne a _ (by decide)).trans h.l2, (eval_put_ne a _ (by decide)).trans h.l3, (eval_put_ne a _ (by decide)).trans h.p,
    (h.q1.put _ (by decide) (by decide)).alloc _,
    ⟨OwS.lit0 w (w0.heap.size + 2) h.zr.lt 9 1 strC, fun _ => eval_put_eq a _ (by rw [h.sz]; decide), fun e => by omega⟩,
    (h.q3.put _ (by decide) (by decide)).alloc _,
    fun g e1 e2 => by have h1 := h.q1.own.lt g e1; have h2 : w.heap.size = g := (by injection e2); omega, h.d13, fun g e1 e2 => by have h1 := h.q3.own.lt g e2; have h2 : w.heap.size = g := (by injection e1); omega, h.row.alloc _, h.zr.alloc _, h.below.alloc h.below.size _⟩
theorem Cp.app2 {v' : Value} {us' : List Value} (h : Cp d A1 c1 A2 c2 A3 c3 w0 s1 1 s3 a w v1 v2 v3 us1 us2 us3) (ho : OwS w' (w0.heap.size + 2) 9 1 strC v' d.names us' []) (hg : GB w w' v2 v') : Cp d A1 c1 A2 c2 A3 c3 w0 s1 2 s3 (a.put (some 10) v') w' v1 v' v3 us1 us' us3 :=
  ⟨by simp [Act.put, h.sz], by simp [Act.put, h.df], (eval_put_ne a _ (by decide)).trans h.l1, (eval_put_ne a _ (by decide)).trans h.l2, (eval_put_ne a _ (by decide)).trans h.l3, (eval_put_ne a _ (by decide)).trans h.p,
    (h.q1.put _ (by decide) (by decide)).kept hg.grown (fun g e1 e2 => h.d12 g e2 e1),
    ⟨ho, fun e => by omega, fun _ => eval_put_eq a _ (by rw [h.sz]; decide)⟩,
    (h.q3.put _ (by decide) (by decide)).kept hg.grown (fun g e1 e2 => h.d23 g e1 e2),
    fun g e1 e2 => (gb_new hg e2).elim (fun e => h.d12 g e1 e) (fun e => by have h1 := h.q1.own.lt g e1; omega), h.d13, fun g e1 e2 => (gb_new hg e1).elim (fun e => h.d23 g e e2) (fun e => by have h1 := h.q3.own.lt g e2; omega), hg.row h.row (h.q2.own.low (by omega)), hg.row h.zr (h.q2.own.low (by omega)), h.below.trans (hg.toBelow h.below.size (fun g e => by have := h.q2.own.from e; omega))⟩
theorem Cp.lit3 (h : Cp d A1 c1 A2 c2 A3 c3 w0 s1 s2 0 a w v1 v2 v3 us1 us2 us3) : Cp d A1 c1 A2 c2 A3 c3 w0 s1 s2 1 (a.put (some 11) (.slice (some ⟨w.heap.size, 0, none⟩) 0 0)) (w.alloc (.cells #[] 147)) v1 v2 (.slice (some ⟨w.heap.size, 0, none⟩) 0 0) us1 us2 [] :=
  ⟨by simp [Act.put, h.sz], by simp [Act.put, h.df], (eval_put_ne a _ (by decide)).trans h.l1, (eval_put_ne a _ (by decide)).trans h.l2, (eval_put_ne a _ (by decide)).trans h.l3, (eval_put_ne a _ (by decide)).trans h.p,
    (h.q1.put _ (by decide) (by decide)).alloc _,
    (h.q2.put _ (by decide) (by decide)).alloc _,
    ⟨OwS.lit0 w (w0.heap.size + 2) h.zr.lt 147 2 DiskMove.cells, fun _ => eval_put_eq a _ (by rw [h.sz]; decide), fun e => by omega⟩,
    h.d12, fun g e1 e2 => by have h1 := h.q1.own.lt g e1; have h2 : w.heap.size = g := (by injection e2); omega, fun g e1 e2 => by have h1 := h.q2.own.lt g e1; have h2 : w.heap.size = g := (by injection e2); omega, h.row.alloc _, h.zr.alloc _, h.below.alloc h.below.size _⟩
theorem Cp.app3 {v' : Value} {us' : List Value} (h : Cp d A1 c1 A2 c2 A3 c3 w0 s1 s2 1 a w v1 v2 v3 us1 us2 us3) (ho : OwS w' (w0.heap.size + 2) 147 2 DiskMove.cells v' d.moves us' []) (hg : GB w w' v3 v') : Cp d A1 c1 A2 c2 A3 c3 w0 s1 s2 2 (a.put (some 14) v') w' v1 v2 v' us1 us2 us' :=
  ⟨by simp [Act.put, h.sz], by simp [Act.put, h.df], (eval_put_ne a _ (by decide)).trans h.l1, (eval_put_ne a _ (by decide)).trans h.l2, (eval_put_ne a _ (by decide)).trans h.l3, (eval_put_ne a _ (by decide)).trans h.p,
    (h.q1.put _ (by decide) (by decide)).kept hg.grown (fun g e1 e2 => h.d13 g e2 e1),
    (h.q2.put _ (by decide) (by decide)).kept hg.grown (fun g e1 e2 => h.d23 g e2 e1),
    ⟨ho, fun e => by omega, fun _ => eval_put_eq a _ (by rw [h.sz]; decide)⟩,
    h.d12, fun g e1 e2 => (gb_new hg e2).elim (fun e => h.d13 g e1 e) (fun e => by have h1 := h.q1.own.lt g e1; omega), fun g e1 e2 => (gb_new hg e2).elim (fun e => h.d23 g e1 e) (fun e => by have h1 := h.q2.own.lt g e1; omega), hg.row h.row (h.q3.own.low (by omega)), hg.row h.zr (h.q3.own.low (by omega)), h.below.trans (hg.toBelow h.below.size (fun g e => by have := h.q3.own.from e; omega))⟩
theorem Cp.build (h : Cp d A1 c1 A2 c2 A3 c3 w0 s1 s2 s3 a w v1 v2 v3 us1 us2 us3) (x : Value) : Cp d A1 c1 A2 c2 A3 c3 w0 s1 s2 s3 (a.put (some 15) x) w v1 v2 v3 us1 us2 us3 :=
  ⟨by simp [Act.put, h.sz], by simp [Act.put, h.df], (eval_put_ne a _ (by decide)).trans h.l1, (eval_put_ne a _ (by decide)).trans h.l2, (eval_put_ne a _ (by decide)).trans h.l3, (eval_put_ne a _ (by decide)).trans h.p, h.q1.put _ (by decide) (by decide), h.q2.put _ (by decide) (by decide), h.q3.put _ (by decide) (by decide), h.d12, h.d13, h.d23, h.row, h.zr, h.below⟩
end
/-- three slices of the call's own, none of them another's -/
structure Tri (w : World) (B : Nat) (d : Disk) (v1 v2 v3 : Value) (us1 us2 us3 : List Value) : Prop where
  o1 : OwS w B 143 3 DiskFile.cells v1 d.files us1 []
  o2 : OwS w B 9 1 strC v2 d.names us2 []
  o3 : OwS w B 147 2 DiskMove.cells v3 d.moves us3 []
  d12 : ∀ g, v1.ownBlock = some g → v2.ownBlock ≠ some g
  d13 : ∀ g, v1.ownBlock = some g → v3.ownBlock ≠ some g
  d23 : ∀ g, v2.ownBlock = some g → v3.ownBlock ≠ some g
def CopyRet (d : Disk) (w : World) (e : Ending) (w' : World) : Prop := ∃ v1 v2 v3 us1 us2 us3, e = .returned (.agg #[v1, v2, v3]) ∧ Tri w' w.heap.size d v1 v2 v3 us1 us2 us3 ∧ Below w.heap.size w w'
set_option maxRecDepth 100000 in
set_option maxHeartbeats 4000000 in
theorem l41Copy_any (d : Disk) (us0 : List Value) (fp : List Nat) (w : World) (h : OwC w d.cells us0 fp) (hf : Lt fp w.heap.size) (hbk : d.bulk ≤ 1048576) :
    Calls Try.prog 139 #[.agg us0.toArray] w (CopyRet d w) := by
  obtain ⟨A1, c1, A2, c2, A3, c3, f1, f2, f3, rfl, o1, o2, o3, rfl⟩ := h.oDisk
  clear h
  have hkb := d.bulk_eq
  unfold bulkStrs DiskFile.bulkL DiskMove.bulkL at hkb
  have hl1 : d.files.length ≤ 1048576 := by omega
  have hl2 : d.names.length ≤ 1048576 := by omega
  have hl3 : d.moves.length ≤ 1048576 := by omega
  obtain ⟨W1, hW1⟩ : ∃ W1, ((w.alloc (.cells #[.slice A1 d.files.length c1, .slice A2 d.names.length c2, .slice A3 d.moves.length c3] 83)).alloc (.cells #[.slice none 0 0, .slice none 0 0, .slice none 0 0] 83)) = W1 := ⟨_, rfl⟩
  have hB1 : Below w.heap.size w W1 := hW1 ▸ (((Below.refl _ _).alloc (Nat.le_refl _) _).alloc (by rw [World.size_alloc]; omega) _)
  have RD : Row W1 w.heap.size 83 [.slice A1 d.files.length c1, .slice A2 d.names.length c2, .slice A3 d.moves.length c3] := hW1 ▸ (Row.new w _ _).alloc _
  have RZ : Row W1 (w.heap.size + 1) 83 [.slice none 0 0, .slice none 0 0, .slice none 0 0] := by
    have h := Row.new (w.alloc (.cells #[.slice A1 d.files.length c1, .slice A2 d.names.length c2, .slice A3 d.moves.length c3] 83)) 83 [.slice none 0 0, .slice none 0 0, .slice none 0 0]
    rw [World.size_alloc, hW1] at h
    exact h
  have HB1 := hide hB1
  have HRD := hide RD
  have HRZ := hide RZ
  have O1 := hide (fun W (hb : Below w.heap.size w W) => (o1.below hb hf.left).srcP (files_plain _))
  have O2 := hide (fun W (hb : Below w.heap.size w W) => (o2.below hb hf.right.left).srcP (strs_plain _))
  have O3 := hide (fun W (hb : Below w.heap.size w W) => (o3.below hb hf.right.right).srcP (moves_plain _))
  obtain ⟨ix1, hix1, hx1a, hx1b, hx1c⟩ := info_parts info_DiskFile'
  obtain ⟨ix2, hix2, hx2a, hx2b, hx2c⟩ := info_parts info_string
  obtain ⟨ix3, hix3, hx3a, hx3b, hx3c⟩ := info_parts info_DiskMove'
  have HI1 := hide hix1
  have HI2 := hide hix2
  have HI3 := hide hix3
  clear o1 o2 o3 hB1 RD RZ hix1 hix2 hix3 hkb hbk
  go_enter Try.func139, Try.ntmps139
  go_wp2
  refine wp_region_held_drew (S := fun w' => Row w' w.heap.size 83 [.slice A1 d.files.length c1, .slice A2 d.names.length c2, .slice A3 d.moves.length c3]) (by kernel_rfl) HRD.out ?_
  intro hS
  (try (change wpAnyH _ _ _ _ _ _ _ _ (World.drew _)))
  refine wpAnyH_take (i := 1) (v := .pointer (some ⟨w.heap.size, 0, none⟩)) rfl (by kernel_rfl) (by kernel_rfl) (by kernel_rfl) (fun _ _ _ h => h) (Or.inl ⟨by rfl, by (intro w2 hw2; go_simp; first | done | with_reducible rfl | rfl)⟩) hS ?_
  refine wpAnyH_take (i := 2) (v := .slice A1 d.files.length c1) rfl (by kernel_rfl) (by kernel_rfl) (by kernel_rfl) (fun _ _ _ h => h) (Or.inl ⟨by rfl, by (intro w2 hw2; have c0 := hw2.cell 0; simp only [List.getElem?_cons_zero, List.getElem?_cons_succ] at c0; go_simp)⟩) hS ?_
  refine wpAnyH_take (i := 5) (v := .pointer (some ⟨w.heap.size, 1, none⟩)) rfl (by kernel_rfl) (by kernel_rfl) (by kernel_rfl) (fun _ _ _ h => h) (Or.inl ⟨by rfl, by (intro w2 hw2; go_simp; first | done | with_reducible rfl | rfl)⟩) hS ?_
  refine wpAnyH_take (i := 6) (v := .slice A2 d.names.length c2) rfl (by kernel_rfl) (by kernel_rfl) (by kernel_rfl) (fun _ _ _ h => h) (Or.inl ⟨by rfl, by (intro w2 hw2; have c0 := hw2.cell 1; simp only [List.getElem?_cons_zero, List.getElem?_cons_succ] at c0; go_simp)⟩) hS ?_
  refine wpAnyH_take (i := 9) (v := .pointer (some ⟨w.heap.size, 2, none⟩)) rfl (by kernel_rfl) (by kernel_rfl) (by kernel_rfl) (fun _ _ _ h => h) (Or.inl ⟨by rfl, by (intro w2 hw2; go_simp; first | done | with_reducible rfl | rfl)⟩) hS ?_
  refine wpAnyH_take (i := 10) (v := .slice A3 d.moves.length c3) rfl (by kernel_rfl) (by kernel_rfl) (by kernel_rfl) (fun _ _ _ h => h) (Or.inl ⟨by rfl, by (intro w2 hw2; have c0 := hw2.cell 2; simp only [List.getElem?_cons_zero, List.getElem?_cons_succ] at c0; go_simp)⟩) hS ?_
  clear hS
  refine (fun (h : ∀ N : Nat → Array Bool → Act → World → Prop, N = wpAnyH _ _ _ _ _ → N 8 #[false, true, true, false, false, true, true, false, false, true, true, false, false, false] _ _) => h _ rfl) ?_
  intro N hN
  have n_store : ∀ (a : Act) (u : World) (v1 v2 v3 : Value) (us1 us2 us3 : List Value), Cp d A1 c1 A2 c2 A3 c3 w 2 2 2 a u v1 v2 v3 us1 us2 us3 → a.eval (.tmp 15) = .agg #[v1, v2, v3] → N 1 #[true, true, true, true, true, true, true, true, true, true, true, true, true, false] a u := by
    intro a u v1 v2 v3 us1 us2 us3 h h15
    subst hN
    refine wpAnyH_ready (rs := [13]) (by kernel_rfl) (by simp) ?_
    refine AllReadyH.cons rfl (fun K hK => ?_) AllReadyH.nil
    obtain ⟨B1, e1, rfl⟩ := (show OwS u (w.heap.size + 2) 143 3 DiskFile.cells v1 d.files us1 [] from h.q1.own).form
    obtain ⟨B2, e2, rfl⟩ := (show OwS u (w.heap.size + 2) 9 1 strC v2 d.names us2 [] from h.q2.own).form
    obtain ⟨B3, e3, rfl⟩ := (show OwS u (w.heap.size + 2) 147 2 DiskMove.cells v3 d.moves us3 [] from h.q3.own).form
    have z0 := h.zr.cell 0
    have y0 := h.zr.frozen 0
    have z1 := h.zr.cell 1
    have y1 := h.zr.frozen 1
    have z2 := h.zr.cell 2
    have y2 := h.zr.frozen 2
    have hp := (eval_get a 2).trans h.p
    have hx := (eval_get a 15).trans h15
    clear h15
    have H := hide h
    clear h
    go_simp
    refine hK.out _ _ ?_ (fun _ => wpAnyH_done (by kernel_rfl) ?_ _)
    · exact ((H.out.row.far (p := ⟨w.heap.size + 1, 0, none⟩) (Nat.ne_of_lt (Nat.lt_succ_self _)) _).far (p := ⟨w.heap.size + 1, 1, none⟩) (Nat.ne_of_lt (Nat.lt_succ_self _)) _).far (p := ⟨w.heap.size + 1, 2, none⟩) (Nat.ne_of_lt (Nat.lt_succ_self _)) _
    · go_wp2
      have hg := setN_grown [.slice B1 d.files.length e1, .slice B2 d.names.length e2, .slice B3 d.moves.length e3] 0 (grown_refl u (some (w.heap.size + 1)))
      refine bodyPost_ret (ret_row rfl _ _ (w.heap.size + 1) 83 [.slice B1 d.files.length e1, .slice B2 d.names.length e2, .slice B3 d.moves.length e3] (H.out.zr.setAll [.slice B1 d.files.length e1, .slice B2 d.names.length e2, .slice B3 d.moves.length e3] rfl) _ H.out.p Try.underlying83 rfl (by kernel_rfl)) H.out.df ?_
      exact ⟨_, _, _, us1, us2, us3, rfl, ⟨(H.out.q1.kept hg (fun g e => by injection e with e; subst e; exact H.out.q1.own.low (by omega))).own.lower (by omega), (H.out.q2.kept hg (fun g e => by injection e with e; subst e; exact H.out.q2.own.low (by omega))).own.lower (by omega), (H.out.q3.kept hg (fun g e => by injection e with e; subst e; exact H.out.q3.own.low (by omega))).own.lower (by omega), H.out.d12, H.out.d13, H.out.d23⟩, H.out.below.trans (below_of_grown hg (Nat.le_succ _) H.out.below.size)⟩
  have n_222 : ∀ (a : Act) (u : World) (v1 v2 v3 : Value) (us1 us2 us3 : List Value), Cp d A1 c1 A2 c2 A3 c3 w 2 2 2 a u v1 v2 v3 us1 us2 us3 → N 2 #[true, true, true, true, true, true, true, true, true, true, true, true, false, false] a u := by
    intro a u v1 v2 v3 us1 us2 us3 h
    subst hN
    refine wpAnyH_ready (rs := [12]) (by kernel_rfl) (by simp) ?_
    refine AllReadyH.cons rfl (fun K hK => ?_) AllReadyH.nil
    obtain ⟨B1, g1, rfl⟩ := (show OwS u (w.heap.size + 2) 143 3 DiskFile.cells v1 d.files us1 [] from h.q1.own).form
    obtain ⟨B2, g2, rfl⟩ := (show OwS u (w.heap.size + 2) 9 1 strC v2 d.names us2 [] from h.q2.own).form
    obtain ⟨B3, g3, rfl⟩ := (show OwS u (w.heap.size + 2) 147 2 DiskMove.cells v3 d.moves us3 [] from h.q3.own).form
    have e1 := (eval_get a 6).trans (h.q1.t2 (by decide))
    have e2 := (eval_get a 10).trans (h.q2.t2 (by decide))
    have e3 := (eval_get a 14).trans (h.q3.t2 (by decide))
    go_simp
    have h' := h.build (.agg #[.slice B1 d.files.length g1, .slice B2 d.names.length g2, .slice B3 d.moves.length g3])
    exact hK.out _ _ h'.row (fun _ => n_store _ _ _ _ _ _ _ _ h' (eval_put_eq a _ (by rw [h.sz]; decide)))
  have n_221 : ∀ (a : Act) (u : World) (v1 v2 v3 : Value) (us1 us2 us3 : List Value), Cp d A1 c1 A2 c2 A3 c3 w 2 2 1 a u v1 v2 v3 us1 us2 us3 → N 3 #[true, true, true, true, true, true, true, true, true, true, true, false, false, false] a u := by
    intro a u v1 v2 v3 us1 us2 us3 h
    subst hN
    refine wpAnyH_ready (rs := [11]) (by kernel_rfl) (by simp) ?_
    refine AllReadyH.cons rfl (fun K hK => ?_) ?_
    · obtain ⟨ur, hur, hsr⟩ := O3.out u h.below
      refine step_app (by rfl) _ _ 81 (by rfl) ix3 _ 24 Try.underlying81 HI3.out hx3a hx3b hx3c rfl (by decide) DiskMove.cells_len (h.q3.t1 rfl) (show OwS u (w.heap.size + 2) 147 2 DiskMove.cells v3 [] us3 [] from h.q3.own) d.moves hur (by exact New.nil _ _) (fun g _ hg => by cases hg) _ _ _ h.l3 rfl hsr (by simp only [List.length_nil]; omega) (by decide) h.zr.lt ?_
      intro A' n' c' w' hn' hown' hgb'
      have h' := h.app3 hown' hgb'
      exact hK.out _ _ h'.row (fun _ => n_222 _ _ _ _ _ _ _ _ h')
    exact AllReadyH.nil
  have n_211 : ∀ (a : Act) (u : World) (v1 v2 v3 : Value) (us1 us2 us3 : List Value), Cp d A1 c1 A2 c2 A3 c3 w 2 1 1 a u v1 v2 v3 us1 us2 us3 → N 4 #[true, true, true, true, true, true, true, false, true, true, true, false, false, false] a u := by
    intro a u v1 v2 v3 us1 us2 us3 h
    subst hN
    refine wpAnyH_ready (rs := [7]) (by kernel_rfl) (by simp) ?_
    refine AllReadyH.cons rfl (fun K hK => ?_) ?_
    · obtain ⟨ur, hur, hsr⟩ := O2.out u h.below
      refine step_app (by rfl) _ _ 22 (by rfl) ix2 _ 16 Try.underlying22 HI2.out hx2a hx2b hx2c rfl (by decide) strC_len (h.q2.t1 rfl) (show OwS u (w.heap.size + 2) 9 1 strC v2 [] us2 [] from h.q2.own) d.names hur (by exact New.nil _ _) (fun g _ hg => by cases hg) _ _ _ h.l2 rfl hsr (by simp only [List.length_nil]; omega) (by decide) h.zr.lt ?_
      intro A' n' c' w' hn' hown' hgb'
      have h' := h.app2 hown' hgb'
      exact hK.out _ _ h'.row (fun _ => n_221 _ _ _ _ _ _ _ _ h')
    exact AllReadyH.nil
  have n_220 : ∀ (a : Act) (u : World) (v1 v2 v3 : Value) (us1 us2 us3 : List Value), Cp d A1 c1 A2 c2 A3 c3 w 2 2 0 a u v1 v2 v3 us1 us2 us3 → N 4 #[true, true, true, true, true, true, true, true, false, true, true, false, false, false] a u := by
    intro a u v1 v2 v3 us1 us2 us3 h
    subst hN
    refine wpAnyH_ready (rs := [8]) (by kernel_rfl) (by simp) ?_
    refine AllReadyH.cons rfl (fun K hK => ?_) ?_
    · go_simp
      exact hK.out _ _ h.lit3.row (fun _ => n_221 _ _ _ _ _ _ _ _ h.lit3)
    exact AllReadyH.nil
  have n_111 : ∀ (a : Act) (u : World) (v1 v2 v3 : Value) (us1 us2 us3 : List Value), Cp d A1 c1 A2 c2 A3 c3 w 1 1 1 a u v1 v2 v3 us1 us2 us3 → N 5 #[true, true, true, false, true, true, true, false, true, true, true, false, false, false] a u := by
    intro a u v1 v2 v3 us1 us2 us3 h
    subst hN
    refine wpAnyH_ready (rs := [3]) (by kernel_rfl) (by simp) ?_
    refine AllReadyH.cons rfl (fun K hK => ?_) ?_
    · obtain ⟨ur, hur, hsr⟩ := O1.out u h.below
      refine step_app (by rfl) _ _ 80 (by rfl) ix1 _ 40 Try.underlying80 HI1.out hx1a hx1b hx1c rfl (by decide) DiskFile.cells_len (h.q1.t1 rfl) (show OwS u (w.heap.size + 2) 143 3 DiskFile.cells v1 [] us1 [] from h.q1.own) d.files hur (by exact New.nil _ _) (fun g _ hg => by cases hg) _ _ _ h.l1 rfl hsr (by simp only [List.length_nil]; omega) (by decide) h.zr.lt ?_
      intro A' n' c' w' hn' hown' hgb'
      have h' := h.app1 hown' hgb'
      exact hK.out _ _ h'.row (fun _ => n_211 _ _ _ _ _ _ _ _ h')
    exact AllReadyH.nil
  have n_201 : ∀ (a : Act) (u : World) (v1 v2 v3 : Value) (us1 us2 us3 : List Value), Cp d A1 c1 A2 c2 A3 c3 w 2 0 1 a u v1 v2 v3 us1 us2 us3 → N 5 #[true, true, true, true, false, true, true, false, true, true, true, false, false, false] a u := by
    intro a u v1 v2 v3 us1 us2 us3 h
    subst hN
    refine wpAnyH_ready (rs := [4]) (by kernel_rfl) (by simp) ?_
    refine AllReadyH.cons rfl (fun K hK => ?_) ?_
    · go_simp
      exact hK.out _ _ h.lit2.row (fun _ => n_211 _ _ _ _ _ _ _ _ h.lit2)
    exact AllReadyH.nil
  have n_210 : ∀ (a : Act) (u : World) (v1 v2 v3 : Value) (us1 us2 us3 : List Value), Cp d A1 c1 A2 c2 A3 c3 w 2 1 0 a u v1 v2 v3 us1 us2 us3 → N 5 #[true, true, true, true, true, true, true, false, false, true, true, false, false, false] a u := by
    intro a u v1 v2 v3 us1 us2 us3 h
    subst hN
    refine wpAnyH_ready (rs := [7, 8]) (by kernel_rfl) (by simp) ?_
    refine AllReadyH.cons rfl (fun K hK => ?_) ?_
    · obtain ⟨ur, hur, hsr⟩ := O2.out u h.below
      refine step_app (by rfl) _ _ 22 (by rfl) ix2 _ 16 Try.underlying22 HI2.out hx2a hx2b hx2c rfl (by decide) strC_len (h.q2.t1 rfl) (show OwS u (w.heap.size + 2) 9 1 strC v2 [] us2 [] from h.q2.own) d.names hur (by exact New.nil _ _) (fun g _ hg => by cases hg) _ _ _ h.l2 rfl hsr (by simp only [List.length_nil]; omega) (by decide) h.zr.lt ?_
      intro A' n' c' w' hn' hown' hgb'
      have h' := h.app2 hown' hgb'
      exact hK.out _ _ h'.row (fun _ => n_220 _ _ _ _ _ _ _ _ h')
    refine AllReadyH.cons rfl (fun K hK => ?_) ?_
    · go_simp
      exact hK.out _ _ h.lit3.row (fun _ => n_211 _ _ _ _ _ _ _ _ h.lit3)
    exact AllReadyH.nil
  have n_011 : ∀ (a : Act) (u : World) (v1 v2 v3 : Value) (us1 us2 us3 : List Value), Cp d A1 c1 A2 c2 A3 c3 w 0 1 1 a u v1 v2 v3 us1 us2 us3 → N 6 #[false, true, true, false, true, true, true, false, true, true, true, false, false, false] a u := by
    intro a u v1 v2 v3 us1 us2 us3 h
    subst hN
    refine wpAnyH_ready (rs := [0]) (by kernel_rfl) (by simp) ?_
    refine AllReadyH.cons rfl (fun K hK => ?_) ?_
    · go_simp
      exact hK.out _ _ h.lit1.row (fun _ => n_111 _ _ _ _ _ _ _ _ h.lit1)
    exact AllReadyH.nil
  have n_101 : ∀ (a : Act) (u : World) (v1 v2 v3 : Value) (us1 us2 us3 : List Value), Cp d A1 c1 A2 c2 A3 c3 w 1 0 1 a u v1 v2 v3 us1 us2 us3 → N 6 #[true, true, true, false, false, true, true, false, true, true, true, false, false, false] a u := by
    intro a u v1 v2 v3 us1 us2 us3 h
    subst hN
    refine wpAnyH_ready (rs := [3, 4]) (by kernel_rfl) (by simp) ?_
    refine AllReadyH.cons rfl (fun K hK => ?_) ?_
    · obtain ⟨ur, hur, hsr⟩ := O1.out u h.below
      refine step_app (by rfl) _ _ 80 (by rfl) ix1 _ 40 Try.underlying80 HI1.out hx1a hx1b hx1c rfl (by decide) DiskFile.cells_len (h.q1.t1 rfl) (show OwS u (w.heap.size + 2) 143 3 DiskFile.cells v1 [] us1 [] from h.q1.own) d.files hur (by exact New.nil _ _) (fun g _ hg => by cases hg) _ _ _ h.l1 rfl hsr (by simp only [List.length_nil]; omega) (by decide) h.zr.lt ?_
      intro A' n' c' w' hn' hown' hgb'
      have h' := h.app1 hown' hgb'
      exact hK.out _ _ h'.row (fun _ => n_201 _ _ _ _ _ _ _ _ h')
    refine AllReadyH.cons rfl (fun K hK => ?_) ?_
    · go_simp
      exact hK.out _ _ h.lit2.row (fun _ => n_111 _ _ _ _ _ _ _ _ h.lit2)
    exact AllReadyH.nil
  have n_110 : ∀ (a : Act) (u : World) (v1 v2 v3 : Value) (us1 us2 us3 : List Value), Cp d A1 c1 A2 c2 A3 c3 w 1 1 0 a u v1 v2 v3 us1 us2 us3 → N 6 #[true, true, true, false, true, true, true, false, false, true, true, false, false, false] a u := by
    intro a u v1 v2 v3 us1 us2 us3 h
    subst hN
    refine wpAnyH_ready (rs := [3, 8]) (by kernel_rfl) (by simp) ?_
    refine AllReadyH.cons rfl (fun K hK => ?_) ?_
    · obtain ⟨ur, hur, hsr⟩ := O1.out u h.below
      refine step_app (by rfl) _ _ 80 (by rfl) ix1 _ 40 Try.underlying80 HI1.out hx1a hx1b hx1c rfl (by decide) DiskFile.cells_len (h.q1.t1 rfl) (show OwS u (w.heap.size + 2) 143 3 DiskFile.cells v1 [] us1 [] from h.q1.own) d.files hur (by exact New.nil _ _) (fun g _ hg => by cases hg) _ _ _ h.l1 rfl hsr (by simp only [List.length_nil]; omega) (by decide) h.zr.lt ?_
      intro A' n' c' w' hn' hown' hgb'
      have h' := h.app1 hown' hgb'
      exact hK.out _ _ h'.row (fun _ => n_210 _ _ _ _ _ _ _ _ h')
    refine AllReadyH.cons rfl (fun K hK => ?_) ?_
    · go_simp
      exact hK.out _ _ h.lit3.row (fun _ => n_111 _ _ _ _ _ _ _ _ h.lit3)
    exact AllReadyH.nil
  have n_200 : ∀ (a : Act) (u : World) (v1 v2 v3 : Value) (us1 us2 us3 : List Value), Cp d A1 c1 A2 c2 A3 c3 w 2 0 0 a u v1 v2 v3 us1 us2 us3 → N 6 #[true, true, true, true, false, true, true, false, false, true, true, false, false, false] a u := by
    intro a u v1 v2 v3 us1 us2 us3 h
    subst hN
    refine wpAnyH_ready (rs := [4, 8]) (by kernel_rfl) (by simp) ?_
    refine AllReadyH.cons rfl (fun K hK => ?_) ?_
    · go_simp
      exact hK.out _ _ h.lit2.row (fun _ => n_210 _ _ _ _ _ _ _ _ h.lit2)
    refine AllReadyH.cons rfl (fun K hK => ?_) ?_
    · go_simp
      exact hK.out _ _ h.lit3.row (fun _ => n_201 _ _ _ _ _ _ _ _ h.lit3)
    exact AllReadyH.nil
  have n_001 : ∀ (a : Act) (u : World) (v1 v2 v3 : Value) (us1 us2 us3 : List Value), Cp d A1 c1 A2 c2 A3 c3 w 0 0 1 a u v1 v2 v3 us1 us2 us3 → N 7 #[false, true, true, false, false, true, true, false, true, true, true, false, false, false] a u := by
    intro a u v1 v2 v3 us1 us2 us3 h
    subst hN
    refine wpAnyH_ready (rs := [0, 4]) (by kernel_rfl) (by simp) ?_
    refine AllReadyH.cons rfl (fun K hK => ?_) ?_
    · go_simp
      exact hK.out _ _ h.lit1.row (fun _ => n_101 _ _ _ _ _ _ _ _ h.lit1)
    refine AllReadyH.cons rfl (fun K hK => ?_) ?_
    · go_simp
      exact hK.out _ _ h.lit2.row (fun _ => n_011 _ _ _ _ _ _ _ _ h.lit2)
    exact AllReadyH.nil
  have n_010 : ∀ (a : Act) (u : World) (v1 v2 v3 : Value) (us1 us2 us3 : List Value), Cp d A1 c1 A2 c2 A3 c3 w 0 1 0 a u v1 v2 v3 us1 us2 us3 → N 7 #[false, true, true, false, true, true, true, false, false, true, true, false, false, false] a u := by
    intro a u v1 v2 v3 us1 us2 us3 h
    subst hN
    refine wpAnyH_ready (rs := [0, 8]) (by kernel_rfl) (by simp) ?_
    refine AllReadyH.cons rfl (fun K hK => ?_) ?_
    · go_simp
      exact hK.out _ _ h.lit1.row (fun _ => n_110 _ _ _ _ _ _ _ _ h.lit1)
    refine AllReadyH.cons rfl (fun K hK => ?_) ?_
    · go_simp
      exact hK.out _ _ h.lit3.row (fun _ => n_011 _ _ _ _ _ _ _ _ h.lit3)
    exact AllReadyH.nil
  have n_100 : ∀ (a : Act) (u : World) (v1 v2 v3 : Value) (us1 us2 us3 : List Value), Cp d A1 c1 A2 c2 A3 c3 w 1 0 0 a u v1 v2 v3 us1 us2 us3 → N 7 #[true, true, true, false, false, true, true, false, false, true, true, false, false, false] a u := by
    intro a u v1 v2 v3 us1 us2 us3 h
    subst hN
    refine wpAnyH_ready (rs := [3, 4, 8]) (by kernel_rfl) (by simp) ?_
    refine AllReadyH.cons rfl (fun K hK => ?_) ?_
    · obtain ⟨ur, hur, hsr⟩ := O1.out u h.below
      refine step_app (by rfl) _ _ 80 (by rfl) ix1 _ 40 Try.underlying80 HI1.out hx1a hx1b hx1c rfl (by decide) DiskFile.cells_len (h.q1.t1 rfl) (show OwS u (w.heap.size + 2) 143 3 DiskFile.cells v1 [] us1 [] from h.q1.own) d.files hur (by exact New.nil _ _) (fun g _ hg => by cases hg) _ _ _ h.l1 rfl hsr (by simp only [List.length_nil]; omega) (by decide) h.zr.lt ?_
      intro A' n' c' w' hn' hown' hgb'
      have h' := h.app1 hown' hgb'
      exact hK.out _ _ h'.row (fun _ => n_200 _ _ _ _ _ _ _ _ h')
    refine AllReadyH.cons rfl (fun K hK => ?_) ?_
    · go_simp
      exact hK.out _ _ h.lit2.row (fun _ => n_110 _ _ _ _ _ _ _ _ h.lit2)
    refine AllReadyH.cons rfl (fun K hK => ?_) ?_
    · go_simp
      exact hK.out _ _ h.lit3.row (fun _ => n_101 _ _ _ _ _ _ _ _ h.lit3)
    exact AllReadyH.nil
  have n_000 : ∀ (a : Act) (u : World) (v1 v2 v3 : Value) (us1 us2 us3 : List Value), Cp d A1 c1 A2 c2 A3 c3 w 0 0 0 a u v1 v2 v3 us1 us2 us3 → N 8 #[false, true, true, false, false, true, true, false, false, true, true, false, false, false] a u := by
    intro a u v1 v2 v3 us1 us2 us3 h
    subst hN
    refine wpAnyH_ready (rs := [0, 4, 8]) (by kernel_rfl) (by simp) ?_
    refine AllReadyH.cons rfl (fun K hK => ?_) ?_
    · go_simp
      exact hK.out _ _ h.lit1.row (fun _ => n_100 _ _ _ _ _ _ _ _ h.lit1)
    refine AllReadyH.cons rfl (fun K hK => ?_) ?_
    · go_simp
      exact hK.out _ _ h.lit2.row (fun _ => n_010 _ _ _ _ _ _ _ _ h.lit2)
    refine AllReadyH.cons rfl (fun K hK => ?_) ?_
    · go_simp
      exact hK.out _ _ h.lit3.row (fun _ => n_001 _ _ _ _ _ _ _ _ h.lit3)
    exact AllReadyH.nil
  refine n_000 _ _ (.slice none 0 0) (.slice none 0 0) (.slice none 0 0) [] [] [] ⟨by rfl, by rfl, by rfl, by rfl, by rfl, by rfl, ⟨OwS.nil _ _ _ _ _, fun e => by omega, fun e => by omega⟩, ⟨OwS.nil _ _ _ _ _, fun e => by omega, fun e => by omega⟩, ⟨OwS.nil _ _ _ _ _, fun e => by omega, fun e => by omega⟩, fun g e => (by cases e), fun g e => (by cases e), fun g e => (by cases e), HRD.out, HRZ.out, below_drewN HB1.out 1⟩
end Go.Proofs.Ytdingkbggjehoaa
