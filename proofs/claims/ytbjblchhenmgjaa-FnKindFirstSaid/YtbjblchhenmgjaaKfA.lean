/-
  When a tree is of a schema: plain definitions. The first tree of a schema that is ok is of it, and has no more parts: the plain law. The draws of the reference: a schema, any. The first tree of a schema: the reference. Go's library on slices that read as data: Equal, Clone and Contains of this program's text. The first tree of a schema: the program. KindFirst of both. KindHas of the reference: l2Has. KindHas of the program: has. KindHas: the program's and the reference's answer alike. The walk of the comparison of trees: on two copies of one tree it says true. FnKindFirst returns true for every input: every schema has a tree. No condition.
-/
import Derived.Test.YtbjblchhenmgjaaKindParts
import Derived.Test.YtbjblchhenmgjaaTreeParts
import Derived.Test.YtbjblchhenmgjaaFirst
import Derived.Test.YtbjblchhenmgjaaSpoil
import Derived.Deep.RegionHeld3
import Derived.Deep.RegionLaw
import Derived.Deep.CutRange
import Derived.Deep.DeepCutAuto
import Derived.Test.YtbjblchhenmgjaaName
import Derived.Test.YtbjblchhenmgjaaOwn
import Derived.Test.YtbjblchhenmgjaaShelf
import Derived.Test.YtbjblchhenmgjaaTxt
import Derived.Test.YtbjblchhenmgjaaKid
import Derived.Test.YtbjblchhenmgjaaKindOk2
import Derived.Test.YtbjblchhenmgjaaHTree
import Derived.BigQuiet
set_option linter.unusedVariables false
set_option linter.unusedSimpArgs false
namespace Go.Proofs.Ytbjblchhenmgjaa
open Go.ChangeShapes Go.WideShapes Go.ChangeAt Go.RowKit

/-- the schema of a kid -/
def Kind.pick (k : Kind) (i : Nat) : Kind := (k.kids[if k.sort = 5 then i else 0]?).getD k
mutual
def Tree.of : Tree → Kind → Prop
  | .mk s _ _ ns ts, k => k.sort = s ∧ k.names = ns ∧ Tree.ofS ts k.pick 0
def Tree.ofS : List Tree → (Nat → Kind) → Nat → Prop
  | [], _, _ => True
  | t :: r, f, i => t.of (f i) ∧ Tree.ofS r f (i + 1)
end
theorem Tree.ofS_iff : ∀ (l : List Tree) (f : Nat → Kind) (i : Nat), Tree.ofS l f i ↔ ∀ j (h : j < l.length), l[j].of (f (i + j))
  | [], f, i => by simp [Tree.ofS]
  | t :: r, f, i => by
    simp only [Tree.ofS, Tree.ofS_iff r f (i + 1)]
    constructor
    · rintro ⟨h1, h2⟩ j hj
      cases j with
      | zero => simpa using h1
      | succ j =>
        have := h2 j (by simpa using hj)
        simpa [Nat.add_assoc, Nat.add_comm 1 j] using this
    · intro h
      refine ⟨h 0 (by simp), fun j hj => ?_⟩
      have := h (j + 1) (by simpa using hj)
      simpa [Nat.add_assoc, Nat.add_comm 1 j] using this
theorem Tree.of_iff (t : Tree) (k : Kind) : t.of k ↔ k.sort = t.sort ∧ k.names = t.names ∧ ∀ j (h : j < t.kids.length), t.kids[j].of (k.pick j) := by
  cases t with
  | mk s n x ns ts => simp only [Tree.of, Tree.ofS_iff, Nat.zero_add]; rfl

/-- the place of a kid's schema -/
theorem Kind.pick_at {k : Kind} {lv : Nat} (hg : k.good lv) {t : Tree} (ht : t.shape) (hs : k.sort = t.sort) (hn : k.names.length = t.names.length) {j : Nat} (hj : j < t.kids.length) :
    0 < k.kids.length ∧ ∃ h : (if k.sort = 5 then j else 0) < k.kids.length, k.pick j = k.kids[if k.sort = 5 then j else 0] := by
  have h1 := ((Kind.good_iff _ _).1 hg).2.1
  have h2 : (if k.sort = 5 then j else 0) < k.kids.length := by
    unfold Tree.shape at ht
    rcases k.shape_iff.1 h1 with h | h | h
    · omega
    · rw [if_neg (by omega)]; omega
    · rw [if_pos h.1]; omega
  refine ⟨by omega, h2, ?_⟩
  unfold Kind.pick
  rw [List.getElem?_eq_getElem h2]
  rfl
end Go.Proofs.Ytbjblchhenmgjaa
set_option linter.unusedVariables false
set_option linter.unusedSimpArgs false
namespace Go.Proofs.Ytbjblchhenmgjaa
open Go.ChangeShapes Go.WideShapes Go.ChangeAt Go.RowKit

theorem goodK_mem : ∀ (l : List Kind) (lv : Nat), Kind.goodS l lv → ∀ x ∈ l, x.good lv
  | x :: r, lv, h, y, hy => by
    simp only [Kind.goodS] at h
    rcases List.mem_cons.1 hy with rfl | hy
    · exact h.1
    · exact goodK_mem r lv h.2 y hy
theorem first_goodS : ∀ (l : List Kind) (lv : Nat), (∀ x ∈ l, x.firstT.good lv) → Tree.goodS (l.map Kind.firstT) lv
  | [], _, _ => trivial
  | x :: r, lv, h => ⟨h x (by simp), first_goodS r lv (fun y hy => h y (by simp [hy]))⟩
theorem first_partsS : ∀ (l : List Kind), (∀ x ∈ l, x.firstT.parts ≤ x.parts) → Tree.partsS (l.map Kind.firstT) ≤ Kind.partsS l
  | [], _ => Nat.le_refl _
  | x :: r, h => by
    have h1 := h x (by simp)
    have h2 := first_partsS r (fun y hy => h y (by simp [hy]))
    simp only [List.map_cons, Tree.partsS, Kind.partsS]
    omega
theorem first_law (k : Kind) : ∀ lv, k.good lv → k.firstT.good lv ∧ k.firstT.of k ∧ k.firstT.parts ≤ k.parts := by
  refine Kind.ind (P := fun k => ∀ lv, k.good lv → k.firstT.good lv ∧ k.firstT.of k ∧ k.firstT.parts ≤ k.parts) (fun k ih => ?_) k
  intro lv h
  have hg := (Kind.good_iff _ _).1 h
  have hp := k.parts_eq
  have hk : ∀ x ∈ k.kids, x.firstT.good (lv + 1) ∧ x.firstT.of x ∧ x.firstT.parts ≤ x.parts := fun x hx => ih x hx (lv + 1) (goodK_mem _ _ hg.2.2 x hx)
  by_cases h5 : k.sort = 5
  · have hs : NamesOk k.names ∧ k.names.length = k.kids.length := by
      rcases k.shape_iff.1 hg.2.1 with h | h | h
      · omega
      · omega
      · exact h.2
    rw [k.firstT_five h5]
    have e1 : (Tree.mk k.sort 0 ByteArray.empty k.names (k.kids.map Kind.firstT)).parts = 1 + Tree.partsS (k.kids.map Kind.firstT) := rfl
    refine ⟨?_, ?_, ?_⟩
    · rw [Tree.good_iff]
      refine ⟨hg.1, ?_, first_goodS _ _ (fun x hx => (hk x hx).1)⟩
      unfold Tree.shape
      exact .inr (.inr (.inr (.inr (.inl ⟨h5, rfl, by simp [Tree.text], hs.1, by simp [Tree.names, Tree.kids, hs.2]⟩))))
    · rw [Tree.of_iff]
      refine ⟨rfl, rfl, fun j hj => ?_⟩
      have hj' : j < k.kids.length := by simpa [Tree.kids] using hj
      have e : k.pick j = k.kids[j] := by
        unfold Kind.pick
        rw [if_pos h5, List.getElem?_eq_getElem hj']
        rfl
      rw [e]
      have e2 : (Tree.mk k.sort 0 ByteArray.empty k.names (k.kids.map Kind.firstT)).kids[j] = k.kids[j].firstT := by simp [Tree.kids]
      rw [e2]
      exact (hk _ (List.getElem_mem hj')).2.1
    · rw [e1, hp]
      have := first_partsS k.kids (fun x hx => (hk x hx).2.2)
      omega
  · rw [k.firstT_other h5]
    have hn : k.names = [] ∧ (k.sort = 1 ∨ k.sort = 2 ∨ k.sort = 3 ∨ k.sort = 4 ∨ k.sort = 6) := by
      rcases k.shape_iff.1 hg.2.1 with h | h | h
      · exact ⟨List.eq_nil_of_length_eq_zero h.2.1, by omega⟩
      · exact ⟨List.eq_nil_of_length_eq_zero h.2.1, by omega⟩
      · exact absurd h.1 h5
    have ht : ByteArray.empty.toList = [] := by simp
    refine ⟨?_, ?_, ?_⟩
    · rw [Tree.good_iff]
      refine ⟨hg.1, ?_, trivial⟩
      have hx : ByteArray.empty.size = 0 := rfl
      unfold Tree.shape
      simp only [Tree.sort, Tree.num, Tree.text, Tree.names, Tree.kids, List.length_nil, ht]
      rcases hn.2 with h | h | h | h | h
      · exact .inl ⟨h, by omega, by trivial, by trivial, by trivial⟩
      · exact .inr (.inl ⟨h, by trivial, ⟨by omega, fun k hk => by omega⟩, by trivial, by trivial⟩)
      · exact .inr (.inr (.inl ⟨h, by omega, by trivial, by trivial, by trivial⟩))
      · exact .inr (.inr (.inr (.inl ⟨h, by trivial, by trivial, by trivial, by omega⟩)))
      · exact .inr (.inr (.inr (.inr (.inr ⟨h, by trivial, by trivial, by trivial, by omega⟩))))
    · rw [Tree.of_iff]
      exact ⟨rfl, hn.1, fun j hj => by simp [Tree.kids] at hj⟩
    · rw [hp]
      have : (Tree.mk k.sort 0 ByteArray.empty [] []).parts = 1 := rfl
      omega
theorem first_ok {k : Kind} (h : k.ok) : k.firstOf = k.firstT ∧ k.firstT.ok ∧ k.firstT.of k ∧ k.firstT.count ≤ 40 := by
  unfold Kind.ok Kind.fits at h
  obtain ⟨h1, h2, h3⟩ := first_law k 1 h.1
  have hk : k.firstT.ok := by
    unfold Tree.ok Tree.fits
    exact ⟨h1, by omega⟩
  refine ⟨by unfold Kind.firstOf; rw [tb_true (show k.ok from h)]; rfl, hk, h2, ?_⟩
  rw [Tree.count_yes hk]
  omega
end Go.Proofs.Ytbjblchhenmgjaa
set_option linter.unusedVariables false
set_option linter.unusedSimpArgs false
namespace Go.Proofs.Ytbjblchhenmgjaa
open Go.ChangeShapes Go.WideShapes Go.ChangeAt Go.RowKit

theorem anyKind_all {L : List UInt8} {k g : Nat} {w : World} (h : RdD w g L k) (hk : k ≤ 1000000) : Calls Try.prog 108 #[.pointer (some ⟨g, 0, none⟩)] w (KDraw g L k 3040 10310 w) :=
  l5AnyKind_of (fun x => Kind.ind spoilK_of x) h hk
def KDrawn (N : Nat) (w : World) (e : Ending) (w' : World) : Prop := ∃ (x : Kind) (us : List Value) (fq : List Nat), e = .returned (.agg us.toArray) ∧ OwC w' x.cells us fq ∧ New w' fq w.heap.size ∧ x.bulk ≤ N ∧ Below w.heap.size w w'
theorem Kind.firstT_bulk (k : Kind) : k.firstT.bulk ≤ k.bulk := by
  refine Kind.ind (P := fun k => k.firstT.bulk ≤ k.bulk) (fun k ih => ?_) k
  have hs : ∀ (l : List Kind), (∀ x ∈ l, x.firstT.bulk ≤ x.bulk) → Tree.bulkS (l.map Kind.firstT) ≤ Kind.bulkS l := by
    intro l
    induction l with
    | nil => intro _; exact Nat.le_refl _
    | cons x l ih =>
      intro h
      have h1 := h x (by simp)
      have h2 := ih (fun y hy => h y (by simp [hy]))
      simp only [List.map_cons, Tree.bulkS, Kind.bulkS]
      omega
  have h2 := hs k.kids ih
  by_cases h5 : k.sort = 5
  · rw [k.firstT_five h5, Tree.bulk_eq, k.bulk_eq]
    simp only [Tree.text, Tree.names, Tree.kids, List.length_map, ByteArray.size_empty]
    omega
  · rw [k.firstT_other h5, Tree.bulk_eq]
    simp only [Tree.text, Tree.names, Tree.kids, Tree.bulkS, List.length_nil, ByteArray.size_empty]
    have : bulkStrs [] = 0 := rfl
    omega
theorem Kind.firstOf_bulk (k : Kind) : k.firstOf.bulk ≤ k.bulk := by
  unfold Kind.firstOf
  by_cases h : tb k.ok = true
  · rw [if_pos h]; exact k.firstT_bulk
  · rw [if_neg h]; exact Nat.zero_le _
set_option maxRecDepth 100000 in
set_option maxHeartbeats 1000000 in
theorem drawKindFirst_any (l : List UInt8) (A : Option Addr) (n c : Nat) (fp : List Nat) (w : World) (ho : Ow w (.s 1 l.length (l.flatMap byteC)) (.slice A n c) fp) (hf : Lt fp w.heap.size) (hsz : l.length ≤ 1048576) :
    Calls Try.prog 43 #[.slice A n c] w (KDrawn 3040 w) := by
  have HO := hide ho
  clear ho
  go_enter Try.func43, Try.ntmps43
  go_upto_region 1 with fail
  generalize hw1 : w.alloc _ = w1
  have hb0 : Below w.heap.size w w1 := by rw [← hw1]; exact (Below.refl _ _).alloc (Nat.le_refl _) _
  have HZ := hide (show Row w1 w.heap.size 47 [.int .i64 0, .slice none 0 0, .slice none 0 0] from by rw [← hw1]; exact Row.new w _ _)
  have HP := hide (open_any l A n c fp w1 (HO.out.below hb0 hf) (hf.up hb0) hsz)
  have HB0 := hide hb0
  clear hw1 hb0
  go_wp2_with fail
  refine HP.out.mono ?_
  rintro e w2 ⟨L, rfl, hr2, hb2⟩
  have hlt : w.heap.size < w1.heap.size := HZ.out.lt
  have HD := hide (anyKind_all hr2 (by omega))
  have HZ2 := hide (HZ.out.below hb2 HZ.out.lt)
  have HB2 := hide (HB0.out.trans (hb2.mono HB0.out.size))
  have hsz2 := hb2.size
  clear hr2 hb2 HP HZ HB0 HO
  go_wp2_with fail
  refine HD.out.mono ?_
  rintro e w3 ⟨x, us, fq, k3, rfl, ho3, hn3, hx3, hk3, hr3, hg3⟩
  have HB3 := hide (show Below w.heap.size w w3 from HB2.out.trans (below_of_grown hg3 (Nat.le_of_lt hlt) HB2.out.size))
  have HZ3 := hide (HZ2.out.grown hg3 (fun e => by injection e with e; omega))
  have HO3 := hide ho3
  have HN3 := hide hn3
  have hno : w.heap.size ∉ fq := hn3.out (by omega)
  obtain ⟨B1, d1, B2, d2, f1, f2, rfl, -, -, -, -⟩ := ho3.oKind
  clear ho3 hn3 hr3 hg3 HD HB2 HZ2
  have z0 := HZ3.out.cell 0
  have y0 := HZ3.out.frozen 0
  have z1 := HZ3.out.cell 1
  have y1 := HZ3.out.frozen 1
  have z2 := HZ3.out.cell 2
  have y2 := HZ3.out.frozen 2
  have lz := HZ3.out.lt
  go_wp2
  have hgr := setN_grown [.int .i64 x.sort, .slice B1 x.names.length d1, .slice B2 x.kids.length d2] 0 (grown_refl w3 (some w.heap.size))
  refine bodyPost_ret (ret_row rfl _ _ w.heap.size 47 [.int .i64 x.sort, .slice B1 x.names.length d1, .slice B2 x.kids.length d2] (HZ3.out.setAll [.int .i64 x.sort, .slice B1 x.names.length d1, .slice B2 x.kids.length d2] rfl) _ rfl Try.underlying47 rfl (by kernel_rfl)) rfl ?_
  exact ⟨x, _, fq, rfl, HO3.out.grown hgr HN3.out.lt hno, (HN3.out.grown hgr (fun b e => by injection e with e; subst e; exact hno)).mono (by omega), hx3, HB3.out.trans (below_of_grown hgr (Nat.le_refl _) HB3.out.size)⟩
set_option maxRecDepth 100000 in
set_option maxHeartbeats 1000000 in
theorem drawKindWrite_any (l : List UInt8) (A : Option Addr) (n c : Nat) (fp : List Nat) (w : World) (ho : Ow w (.s 1 l.length (l.flatMap byteC)) (.slice A n c) fp) (hf : Lt fp w.heap.size) (hsz : l.length ≤ 1048576) :
    Calls Try.prog 37 #[.slice A n c] w (KDrawn 3040 w) := by
  have HO := hide ho
  clear ho
  go_enter Try.func37, Try.ntmps37
  go_upto_region 1 with fail
  generalize hw1 : w.alloc _ = w1
  have hb0 : Below w.heap.size w w1 := by rw [← hw1]; exact (Below.refl _ _).alloc (Nat.le_refl _) _
  have HZ := hide (show Row w1 w.heap.size 47 [.int .i64 0, .slice none 0 0, .slice none 0 0] from by rw [← hw1]; exact Row.new w _ _)
  have HP := hide (open_any l A n c fp w1 (HO.out.below hb0 hf) (hf.up hb0) hsz)
  have HB0 := hide hb0
  clear hw1 hb0
  go_wp2_with fail
  refine HP.out.mono ?_
  rintro e w2 ⟨L, rfl, hr2, hb2⟩
  have hlt : w.heap.size < w1.heap.size := HZ.out.lt
  have HD := hide (anyKind_all hr2 (by omega))
  have HZ2 := hide (HZ.out.below hb2 HZ.out.lt)
  have HB2 := hide (HB0.out.trans (hb2.mono HB0.out.size))
  have hsz2 := hb2.size
  clear hr2 hb2 HP HZ HB0 HO
  go_wp2_with fail
  refine HD.out.mono ?_
  rintro e w3 ⟨x, us, fq, k3, rfl, ho3, hn3, hx3, hk3, hr3, hg3⟩
  have HB3 := hide (show Below w.heap.size w w3 from HB2.out.trans (below_of_grown hg3 (Nat.le_of_lt hlt) HB2.out.size))
  have HZ3 := hide (HZ2.out.grown hg3 (fun e => by injection e with e; omega))
  have HO3 := hide ho3
  have HN3 := hide hn3
  have hno : w.heap.size ∉ fq := hn3.out (by omega)
  obtain ⟨B1, d1, B2, d2, f1, f2, rfl, -, -, -, -⟩ := ho3.oKind
  clear ho3 hn3 hr3 hg3 HD HB2 HZ2
  have z0 := HZ3.out.cell 0
  have y0 := HZ3.out.frozen 0
  have z1 := HZ3.out.cell 1
  have y1 := HZ3.out.frozen 1
  have z2 := HZ3.out.cell 2
  have y2 := HZ3.out.frozen 2
  have lz := HZ3.out.lt
  go_wp2
  have hgr := setN_grown [.int .i64 x.sort, .slice B1 x.names.length d1, .slice B2 x.kids.length d2] 0 (grown_refl w3 (some w.heap.size))
  refine bodyPost_ret (ret_row rfl _ _ w.heap.size 47 [.int .i64 x.sort, .slice B1 x.names.length d1, .slice B2 x.kids.length d2] (HZ3.out.setAll [.int .i64 x.sort, .slice B1 x.names.length d1, .slice B2 x.kids.length d2] rfl) _ rfl Try.underlying47 rfl (by kernel_rfl)) rfl ?_
  exact ⟨x, _, fq, rfl, HO3.out.grown hgr HN3.out.lt hno, (HN3.out.grown hgr (fun b e => by injection e with e; subst e; exact hno)).mono (by omega), hx3, HB3.out.trans (below_of_grown hgr (Nat.le_refl _) HB3.out.size)⟩
end Go.Proofs.Ytbjblchhenmgjaa
set_option linter.unusedVariables false
set_option linter.unusedSimpArgs false
namespace Go.Proofs.Ytbjblchhenmgjaa
open Go.ChangeShapes Go.WideShapes Go.ChangeAt Go.RowKit

def FirstW (k : Kind) : Prop := ∀ (us : List Value) (fp : List Nat) (lv : Nat) (w : World), OwC w k.cells us fp → Lt fp w.heap.size → k.bulk ≤ 1048576 → k.good lv →
  Calls Try.prog 115 #[.agg us.toArray] w (FirstRet k.firstT w)
set_option maxRecDepth 100000 in
set_option maxHeartbeats 2000000 in
theorem firstW_of (k : Kind) (ih : ∀ x ∈ k.kids, FirstW x) : FirstW k := by
  intro us fp lv w hk hf hbk hg
  obtain ⟨A1, c1, A2, c2, f1, f2, rfl, w0, o1, o2, rfl⟩ := hk.oKind
  obtain ⟨_, hcap1, hmx1⟩ := o1.nlen
  obtain ⟨_, hcap2, hmx2⟩ := o2.nlen
  unfold maxLen at hmx1 hmx2
  have hkb := k.bulk_eq
  unfold bulkStrs at hkb
  have RK : Row (((w.alloc (.cells #[.int .i64 k.sort, .slice A1 k.names.length c1, .slice A2 k.kids.length c2] 47)).alloc (.cells #[.int .i64 0, .int .i64 0, .string .empty, .slice none 0 0, .slice none 0 0] 26)).alloc (.cells #[.int .i64 k.sort, .int .i64 0, .string .empty, .slice none 0 0, .slice none 0 0] 26)) w.heap.size 47 [.int .i64 k.sort, .slice A1 k.names.length c1, .slice A2 k.kids.length c2] := ((Row.new w _ _).alloc _).alloc _
  have RZ : Row (((w.alloc (.cells #[.int .i64 k.sort, .slice A1 k.names.length c1, .slice A2 k.kids.length c2] 47)).alloc (.cells #[.int .i64 0, .int .i64 0, .string .empty, .slice none 0 0, .slice none 0 0] 26)).alloc (.cells #[.int .i64 k.sort, .int .i64 0, .string .empty, .slice none 0 0, .slice none 0 0] 26)) (w.heap.size + 1) 26 [.int .i64 0, .int .i64 0, .string .empty, .slice none 0 0, .slice none 0 0] := by
    have h := (Row.new (w.alloc (.cells #[.int .i64 k.sort, .slice A1 k.names.length c1, .slice A2 k.kids.length c2] 47)) 26 [.int .i64 0, .int .i64 0, .string .empty, .slice none 0 0, .slice none 0 0]).alloc (.cells #[.int .i64 k.sort, .int .i64 0, .string .empty, .slice none 0 0, .slice none 0 0] 26)
    rw [World.size_alloc] at h
    exact h
  have RT : Row (((w.alloc (.cells #[.int .i64 k.sort, .slice A1 k.names.length c1, .slice A2 k.kids.length c2] 47)).alloc (.cells #[.int .i64 0, .int .i64 0, .string .empty, .slice none 0 0, .slice none 0 0] 26)).alloc (.cells #[.int .i64 k.sort, .int .i64 0, .string .empty, .slice none 0 0, .slice none 0 0] 26)) (w.heap.size + 2) 26 [.int .i64 k.sort, .int .i64 0, .string .empty, .slice none 0 0, .slice none 0 0] := by
    have h := Row.new ((w.alloc (.cells #[.int .i64 k.sort, .slice A1 k.names.length c1, .slice A2 k.kids.length c2] 47)).alloc (.cells #[.int .i64 0, .int .i64 0, .string .empty, .slice none 0 0, .slice none 0 0] 26)) 26 [.int .i64 k.sort, .int .i64 0, .string .empty, .slice none 0 0, .slice none 0 0]
    rw [World.size_alloc, World.size_alloc] at h
    exact h
  have HT0 := hide (show TreeAt (((w.alloc (.cells #[.int .i64 k.sort, .slice A1 k.names.length c1, .slice A2 k.kids.length c2] 47)).alloc (.cells #[.int .i64 0, .int .i64 0, .string .empty, .slice none 0 0, .slice none 0 0] 26)).alloc (.cells #[.int .i64 k.sort, .int .i64 0, .string .empty, .slice none 0 0, .slice none 0 0] 26)) (w.heap.size + 2) k.sort (.slice none 0 0) [] [] (.slice none 0 0) [] [] [] from ⟨RT, OwS.nil _ _ _ _ _, OwS.nil _ _ _ _ _, by omega, fun g h => (by cases h), fun g h => (by cases h), fun g h => (by cases h), fun g h => (by cases h)⟩)
  have HB0 := hide (show Below w.heap.size w (((w.alloc (.cells #[.int .i64 k.sort, .slice A1 k.names.length c1, .slice A2 k.kids.length c2] 47)).alloc (.cells #[.int .i64 0, .int .i64 0, .string .empty, .slice none 0 0, .slice none 0 0] 26)).alloc (.cells #[.int .i64 k.sort, .int .i64 0, .string .empty, .slice none 0 0, .slice none 0 0] 26)) from (((Below.refl _ w).alloc (Nat.le_refl _) _).alloc (by rw [World.size_alloc]; omega) _).alloc (by rw [World.size_alloc, World.size_alloc]; omega) _)
  have HK0 := hide RK
  have HZ0 := hide RZ
  have O1 := hide o1
  have O2 := hide o2
  have HG := hide hg
  have HI := hide ih
  have hfe := hide (k.firstT_eq lv hg)
  obtain ⟨ia, hia, ha0, ha1, ha2⟩ := info_parts info_string
  obtain ⟨ib, hib, hb0, hb1, hb2⟩ := info_parts info_Tree'
  have HIa := hide hia
  have HIb := hide hib
  clear hk o1 o2 hg ih RK RZ RT hia hib
  go_enter Try.func115, Try.ntmps115
  go_wp2
  go_loopw [4] (fun i wr => (∃ j : Nat, j ≤ k.names.length ∧ i = .int .i64 (j : Int) ∧ ∃ (B1 : Option Addr) (n1 d1 : Nat) (us1 : List Value) (B2 : Option Addr) (n2 d2 : Nat) (us2 : List Value) (fi2 : List Nat), TreeAt wr (w.heap.size + 2) k.sort (.slice B1 n1 d1) (k.names.take j) us1 (.slice B2 n2 d2) ((k.kids.take j).map Kind.firstT) us2 fi2) ∧ Below w.heap.size w wr ∧ Row wr w.heap.size 47 [.int .i64 k.sort, .slice A1 k.names.length c1, .slice A2 k.kids.length c2] ∧ Row wr (w.heap.size + 1) 26 [.int .i64 0, .int .i64 0, .string .empty, .slice none 0 0, .slice none 0 0]) (fun i _ => k.names.length - (intOf i).toNat)
  case atStart => exact ⟨⟨0, Nat.zero_le _, rfl, none, 0, 0, [], none, 0, 0, [], [], HT0.out⟩, HB0.out, HK0.out, HZ0.out⟩
  case round =>
    obtain ⟨⟨j, hj, rfl, B1, n1, d1, us1, B2, n2, d2, us2, fi2, hT⟩, hb, hrk, hrz⟩ := hrel
    have HB := hide hb
    have HRK := hide hrk
    have HRZ := hide hrz
    have hszA : w.heap.size + 3 ≤ wr.heap.size := by have := hT.box.lt; omega
    have lk := HRK.out.lt
    have k1 : wr.cell? ⟨w.heap.size, 1, none⟩ = some (.slice A1 k.names.length c1) := HRK.out.cell 1
    clear hb hrk hrz
    by_cases hlt : j < k.names.length
    · have hlt2 : j < k.kids.length := Nat.lt_of_lt_of_le hlt hfe.out.2
      obtain ⟨g, off, rfl, hgm, hcell, hs1⟩ := strs_at (O1.out.below HB.out hf.left) hlt
      have hgwg := Nat.lt_of_lt_of_le (hf.left _ hgm) HB.out.size
      have hgl2 : g < w.heap.size := hf.left _ hgm
      have HSN := hide (strs_take k.names j hlt)
      have HSK := hide (kids_snoc k.kids j hlt2)
      have lt1 := hT.box.lt
      have t3 : wr.cell? ⟨w.heap.size + 2, 3, none⟩ = some (.slice B1 n1 d1) := hT.box.cell 3
      have HT2 := hide ((hT.drewN 1).alloc (.cells #[.string k.names[j]] 9))
      have HSZ := hide (show w.heap.size + 3 ≤ ((wr.drewN 1).alloc (.cells #[.string k.names[j]] 9)).heap.size by rw [World.size_alloc]; exact Nat.le_succ_of_le hszA)
      have HDS := hide (fun W => show OwC W ([k.names[j]].flatMap strC) [.string k.names[j]] [] from ⟨[], [], ⟨rfl, hs1, rfl⟩, rfl, rfl⟩)
      clear hT
      generalize k.names[j] = nm at *
      go_upto_region 5 with fail
      go_cut [] from 8 to 35 (fun wx => ∃ (B1 : Option Addr) (n1 d1 : Nat) (us1 : List Value), TreeAt wx (w.heap.size + 2) k.sort (.slice B1 n1 d1) (k.names.take j ++ [nm]) us1 (.slice B2 n2 d2) ((k.kids.take j).map Kind.firstT) us2 fi2 ∧ Below w.heap.size w wx ∧ Row wx w.heap.size 47 [.int .i64 k.sort, .slice (some ⟨g, off, none⟩) k.names.length c1, .slice A2 k.kids.length c2] ∧ Row wx (w.heap.size + 1) 26 [.int .i64 0, .int .i64 0, .string .empty, .slice none 0 0, .slice none 0 0])
      case first =>
        go_region_law (first | (refine step_app (by rfl) _ _ 23 (by rfl) ia _ 16 Try.underlying23 HIa.out ha0 ha1 ha2 rfl (by decide) strC_len (by rfl) HT2.out.one [nm] (HDS.out _) (by exact New.nil _ _) (fun g _ hg => by cases hg) _ 1 1 (by rfl) rfl (SrcAt.new (wr.drewN 1) _ _ _ _) (by rw [List.length_take]; omega) (by decide) HSZ.out ?_; intro A' n' c' w5 hn5 hown5 hgb5; have HG5 := hide hgb5; have HN5 := hide hown5; have r5 := HT2.out.row1 hgb5; have q5 : w5.cell? ⟨w.heap.size + 2, 3, none⟩ = some (.slice B1 n1 d1) := r5.cell 3; have f5 : w5.frozen? ⟨w.heap.size + 2, 3, none⟩ = false := r5.frozen 3; have HNN5 := hide hn5; clear hown5 hgb5 r5 hn5))
        all_goals
          go_wp2_with fail
          go_meet
          refine ⟨A', n', c', us1 ++ [.string nm], HT2.out.put1 HG5.out HN5.out 3 rfl (fun g hg => by cases hg), ?_, ?_, ?_⟩
          · exact HB.out.trans (((below_drewN (Below.refl _ wr) 1).alloc (show w.heap.size ≤ wr.heap.size by omega) _).trans (HT2.out.frame1 HG5.out HSZ.out 3 _ (by omega)))
          · exact Row.far (p := ⟨w.heap.size + 2, 3, none⟩) (HG5.out.row ((HRK.out.drewN 1).alloc _) (HT2.out.one.low (by omega))) (by simp) (.slice A' n' c')
          · exact Row.far (p := ⟨w.heap.size + 2, 3, none⟩) (HG5.out.row ((HRZ.out.drewN 1).alloc _) (HT2.out.one.low (by omega))) (by simp) (.slice A' n' c')
      case rest =>
        clear HT2 HSZ t3 hszA lt1 k1 lk hcell hgwg HB HRK HRZ
        obtain ⟨B1, n1, d1, us1, hT, hb, hrk, hrz⟩ := hcut
        have HB := hide hb
        have HRK := hide hrk
        have HRZ := hide hrz
        have HTc := hide hT
        have hszA : w.heap.size + 3 ≤ wc.heap.size := by have := hT.box.lt; omega
        have lk := HRK.out.lt
        have lt1 := hT.box.lt
        have k2 : wc.cell? ⟨w.heap.size, 2, none⟩ = some (.slice A2 k.kids.length c2) := HRK.out.cell 2
        have t4 : wc.cell? ⟨w.heap.size + 2, 4, none⟩ = some (.slice B2 n2 d2) := hT.box.cell 4
        clear hb hrk hrz hT
        obtain ⟨ga, offa, wsa, fia, rfl, hgma, hfia, hwla, hcsa, hova⟩ := (O2.out.below HB.out hf.right).elem Kind.cells_len hlt2
        have HOa := hide hova
        have HFa := hide ((hf.right.sub hfia).up HB.out)
        have HGa := hide (Kind.kid_good HG.out hlt2)
        have hba := Nat.le_trans (Kind.kid_bulk hlt2) hbk
        have hgla := hf.right _ hgma
        have hgwa := Nat.lt_of_lt_of_le hgla HB.out.size
        have HC := hide (HI.out _ (List.getElem_mem hlt2))
        obtain ⟨C1a, m1a, C2a, m2a, s1a, s2a, rfl, n0a, l1a, l2a, rfl⟩ := hova.oKind
        have p0a := hcsa 0 _ rfl
        have p1a := hcsa 1 _ rfl
        have p2a := hcsa 2 _ rfl
        simp only [Nat.add_zero] at p0a
        clear hcsa hova l1a l2a hfia
        generalize k.kids[j] = x at *
        go_wp2
        go_region_law (first | (refine step_app (by rfl) _ _ 24 (by rfl) ib _ 80 Try.underlying24 HIb.out hb0 hb1 hb2 rfl (by decide) Tree.cells_len (by rfl) HT4.out.two [x.firstT] (by rw [List.flatMap_singleton]; exact HO4.out) (New.app HT4.out.two.new (HN4.out.mono (Nat.le_refl _)) (fun g hg => HTc.out.two.new.lt g hg) (by exact hszA)) (fun g e hm => by have h1 := HTc.out.two.lt g e; have h2 := (HN3.out.fr g hm).1; exact absurd h1 (Nat.not_lt.2 h2)) _ 1 1 (by rfl) rfl (SrcAt.new w3 _ _ _ _) (by rw [List.length_map, List.length_take]; omega) (by decide) (by rw [World.size_alloc]; exact Nat.le_succ_of_le (Nat.le_trans hszA HB3.out.size)) ?_; intro A' n' c' w5 hn5 hown5 hgb5; have HG5 := hide hgb5; have HN5 := hide hown5; have r5 := HT4.out.row2 hgb5; have q5 : w5.cell? ⟨w.heap.size + 2, 4, none⟩ = some (.slice B2 n2 d2) := r5.cell 4; have f5 : w5.frozen? ⟨w.heap.size + 2, 4, none⟩ = false := r5.frozen 4; have HNN5 := hide hn5; clear hown5 hgb5 r5 hn5) | (go_simp; go_at_call 115; refine (HC.out _ _ (lv + 1) _ (HOa.out.drewN 1) (HFa.out.mono (Nat.le_refl _)) hba HGa.out).mono ?_; rintro e w3 ⟨us3, fq3, rfl, ho3, hn3, hb3⟩; have HO3 := hide ho3; have HN3 := hide hn3; obtain ⟨E1, e1, E2, e2, g1, g2, rfl, y0, y1, y2, z1, z2, efq⟩ := ho3.oTree; have HT3 := hide ((HTc.out.drewN 1).below hb3); have HB3 := hide ((below_drewN (Below.refl wc.heap.size wc) 1).trans hb3); have t4c : w3.cell? ⟨w.heap.size + 2, 4, none⟩ = some (.slice B2 n2 d2) := HT3.out.box.cell 4; have lt3 := HT3.out.box.lt; have HT4 := hide (HT3.out.alloc (.cells #[.int .i64 x.firstT.sort, .int .i64 x.firstT.num, .string x.firstT.text, .slice E1 x.firstT.names.length e1, .slice E2 x.firstT.kids.length e2] 26)); have HO4 := hide (HO3.out.alloc HN3.out.lt (.cells #[.int .i64 x.firstT.sort, .int .i64 x.firstT.num, .string x.firstT.text, .slice E1 x.firstT.names.length e1, .slice E2 x.firstT.kids.length e2] 26)); have HN4 := hide (HN3.out.alloc (.cells #[.int .i64 x.firstT.sort, .int .i64 x.firstT.num, .string x.firstT.text, .slice E1 x.firstT.names.length e1, .slice E2 x.firstT.kids.length e2] 26)); clear ho3 hn3 hb3 z1 z2 efq))
        all_goals
          have HF5 := hide (fun W (hW : W = w5.setCell ⟨w.heap.size + 2, 4, none⟩ (.slice A' n' c')) => show TreeAt W (w.heap.size + 2) k.sort (.slice B1 n1 d1) (k.names.take j ++ [nm]) us1 (.slice A' n' c') (((k.kids.take j).map Kind.firstT) ++ [x.firstT]) (us2 ++ [.int .i64 x.firstT.sort, .int .i64 x.firstT.num, .string x.firstT.text, .slice E1 x.firstT.names.length e1, .slice E2 x.firstT.kids.length e2]) (fi2 ++ fq3) ∧ Below w.heap.size w W ∧ Row W w.heap.size 47 [.int .i64 k.sort, .slice (some ⟨g, off, none⟩) k.names.length c1, .slice (some ⟨ga, offa, none⟩) k.kids.length c2] ∧ Row W (w.heap.size + 1) 26 [.int .i64 0, .int .i64 0, .string .empty, .slice none 0 0, .slice none 0 0] from by
            subst hW
            refine ⟨HT4.out.put2 HG5.out HN5.out 4 rfl (fun g hg => ?_), ?_, ?_, ?_⟩
            · rcases List.mem_append.1 hg with hg | hg
              · exact .inl hg
              · exact .inr ⟨fun e => absurd (HTc.out.one.lt g e) (Nat.not_lt.2 (HN3.out.fr g hg).1), fun h => by cases h⟩
            · exact HB.out.trans ((HB3.out.mono HB.out.size).trans (((Below.refl w.heap.size w3).alloc (Nat.le_trans HB.out.size HB3.out.size) _).trans (HT4.out.frame2 HG5.out (by rw [World.size_alloc]; exact Nat.le_succ_of_le (Nat.le_trans hszA HB3.out.size)) 4 _ (by omega))))
            · exact Row.far (p := ⟨w.heap.size + 2, 4, none⟩) (HG5.out.row ((HRK.out.below HB3.out HRK.out.lt).alloc _) (HT4.out.two.low (by omega))) (by simp) _
            · exact Row.far (p := ⟨w.heap.size + 2, 4, none⟩) (HG5.out.row ((HRZ.out.below HB3.out HRZ.out.lt).alloc _) (HT4.out.two.low (by omega))) (by simp) _)
          go_wp2
          go_roundw
          case rel => exact ⟨⟨j + 1, by omega, by go_num, B1, n1, d1, us1, A', n', c', _, _, by rw [HSN.out, HSK.out]; exact (HF5.out _ rfl).1⟩, (HF5.out _ rfl).2⟩
          case measure => simp [intOf]; omega
    · obtain rfl : j = k.names.length := by omega
      have HT := hide hT
      have r0 : wr.cell? ⟨w.heap.size + 2, 0, none⟩ = some (.int .i64 k.sort) := hT.box.cell 0
      have r1 : wr.cell? ⟨w.heap.size + 2, 1, none⟩ = some (.int .i64 0) := hT.box.cell 1
      have r2 : wr.cell? ⟨w.heap.size + 2, 2, none⟩ = some (.string .empty) := hT.box.cell 2
      have r3 : wr.cell? ⟨w.heap.size + 2, 3, none⟩ = some (.slice B1 n1 d1) := hT.box.cell 3
      have r4 : wr.cell? ⟨w.heap.size + 2, 4, none⟩ = some (.slice B2 n2 d2) := hT.box.cell 4
      have lt1 := hT.box.lt
      clear hT
      have z0 := HRZ.out.cell 0
      have y0 := HRZ.out.frozen 0
      have z1 := HRZ.out.cell 1
      have y1 := HRZ.out.frozen 1
      have z2 := HRZ.out.cell 2
      have y2 := HRZ.out.frozen 2
      have z3 := HRZ.out.cell 3
      have y3 := HRZ.out.frozen 3
      have z4 := HRZ.out.cell 4
      have y4 := HRZ.out.frozen 4
      go_wp2
      refine bodyPost_ret (ret_row rfl _ _ (w.heap.size + 1) 26 (treeMk k.sort (.slice B1 n1 d1) (.slice B2 n2 d2)) (HRZ.out.setAll (treeMk k.sort (.slice B1 n1 d1) (.slice B2 n2 d2)) rfl) _ rfl Try.underlying26 rfl (by kernel_rfl)) rfl ?_
      obtain ⟨fq, hx1, hx2, hx3⟩ := first_fin HT.out w0 HB.out (setN_grown (treeMk k.sort (.slice B1 n1 d1) (.slice B2 n2 d2)) 0 (grown_refl wr (some (w.heap.size + 1)))) (by omega) (Nat.le_succ _)
      refine ⟨_, fq, rfl, ?_, hx2, hx3⟩
      rw [hfe.out.1]
      exact hx1
theorem firstW_any (k : Kind) : FirstW k := Kind.ind firstW_of k
end Go.Proofs.Ytbjblchhenmgjaa
set_option linter.unusedVariables false
set_option linter.unusedSimpArgs false
namespace Go.Proofs.Ytbjblchhenmgjaa
open Go.ChangeShapes Go.WideShapes Go.ChangeAt Go.RowKit

theorem strs_all {w : World} {l : List ByteArray} {g off n c : Nat} {fp : List Nat} (h : Ow w (.s 1 l.length (l.flatMap strC)) (.slice (some ⟨g, off, none⟩) n c) fp) :
    ∀ j, j < l.length → w.cell? ⟨g, off + j, none⟩ = some (.string (l.getD j ByteArray.empty)) := fun j hj => by
  obtain ⟨g', off', e, _, hc, _⟩ := strs_at h hj
  injection e with e
  injection e with e1 e2
  subst e1 e2
  rw [hc, List.getD_eq_getElem?_getD, List.getElem?_eq_getElem hj]
  rfl
theorem ints_all {w : World} {l : List Int} {g off n c : Nat} {fp : List Nat} (h : Ow w (.s 1 l.length (l.flatMap intC)) (.slice (some ⟨g, off, none⟩) n c) fp) :
    ∀ j, j < l.length → w.cell? ⟨g, off + j, none⟩ = some (.int .i64 (l.getD j 0)) := fun j hj => by
  obtain ⟨g', off', e, _, hc, _⟩ := ints_at h hj
  injection e with e
  injection e with e1 e2
  subst e1 e2
  rw [hc, List.getD_eq_getElem?_getD, List.getElem?_eq_getElem hj]
  rfl
theorem tb_dec {p : Prop} [Decidable p] : decide p = tb p := by
  by_cases h : p
  · rw [tb_true h]; simpa using h
  · rw [tb_false h]; simpa using h

theorem equalStr_any (l l' : List ByteArray) (A A' : Option Addr) (n n' c c' : Nat) (fp fp' : List Nat) (w : World) (h : Ow w (.s 1 l.length (l.flatMap strC)) (.slice A n c) fp) (h' : Ow w (.s 1 l'.length (l'.flatMap strC)) (.slice A' n' c') fp') :
    Calls Try.prog 192 #[.slice A n c, .slice A' n' c'] w fun e w' => e = .returned (.bool (tb (l = l'))) ∧ Below w.heap.size w w' := by
  obtain ⟨rfl, hc, hm⟩ := h.nlen
  obtain ⟨rfl, hc', hm'⟩ := h'.nlen
  unfold maxLen at hm hm'
  by_cases hl : l.length = l'.length
  · by_cases h0 : l.length = 0
    · have e1 : l = [] := List.eq_nil_of_length_eq_zero h0
      have e2 : l' = [] := List.eq_nil_of_length_eq_zero (by omega)
      subst e1 e2
      refine (Try.slices_Equal_string_empty A A' c 0 c' w (by omega)).mono ?_
      rintro e w' ⟨rfl, rfl⟩
      exact ⟨by rw [tb_true rfl]; rfl, Below.refl _ _⟩
    · obtain ⟨g, off, rfl, _, _, _⟩ := strs_at h (i := 0) (by omega)
      obtain ⟨g', off', rfl, _, _, _⟩ := strs_at h' (i := 0) (by omega)
      refine (Try.slices_Equal_string g off l.length c g' off' l'.length c' l l' w (Nat.le_refl _) (Nat.le_refl _) (by omega) (by omega) (strs_all h) (strs_all h')).mono ?_
      rintro e w' ⟨rfl, q, rfl⟩
      exact ⟨by rw [List.take_length, List.take_length, tb_dec], below_drewN (Below.refl _ _) q⟩
  · refine (Try.slices_Equal_string_lens A A' l.length c l'.length c' w hl).mono ?_
    rintro e w' ⟨rfl, rfl⟩
    exact ⟨by rw [tb_false (fun e => hl (by rw [e]))], Below.refl _ _⟩
theorem strs_cells : ∀ (l : List ByteArray), (∀ s ∈ l, s.size ≤ maxLen) → ∀ (w : World), OwC w (l.flatMap strC) (l.map Value.string) []
  | [], _, w => by simp [OwC]
  | s :: r, h, w => ⟨[], [], ⟨rfl, h s (by simp), rfl⟩, strs_cells r (fun x hx => h x (by simp [hx])) w, rfl⟩
theorem cloneStr_any (l : List ByteArray) (A : Option Addr) (n c : Nat) (fp : List Nat) (w : World) (h : Ow w (.s 1 l.length (l.flatMap strC)) (.slice A n c) fp) (hb : l.length ≤ 1048576) :
    Calls Try.prog 138 #[.slice A n c] w fun e w' => ∃ v', e = .returned v' ∧ OwS w' w.heap.size 9 1 strC v' l (l.map Value.string) [] ∧ Below w.heap.size w w' := by
  obtain ⟨rfl, hc, hm⟩ := h.nlen
  have hs : ∀ s ∈ l, s.size ≤ maxLen := fun s hs => by
    obtain ⟨i, hi, rfl⟩ := List.getElem_of_mem hs
    obtain ⟨_, _, _, _, _, h⟩ := strs_at h hi
    exact h
  have mk : ∀ (v' : Value) (w' : World), w'.ownsRow w.heap.size 9 1 v' l.length (l.map Value.string) → OwS w' w.heap.size 9 1 strC v' l (l.map Value.string) [] := fun v' w' ho =>
    ⟨ho, strs_cells l hs w', New.nil _ _, fun g _ => by simp⟩
  by_cases h0 : l.length = 0
  · have e1 : l = [] := List.eq_nil_of_length_eq_zero h0
    subst e1
    cases A with
    | none =>
      refine (Try.slices_Clone_string_nil 0 c w).mono ?_
      rintro e w' ⟨rfl, rfl⟩
      exact ⟨_, rfl, mk _ _ (World.ownsRow_nil _ _ _ _), Below.refl _ _⟩
    | some a =>
      refine (Try.slices_Clone_string_zero a c w).mono ?_
      rintro e w' ⟨v', rfl, ho, _, hb⟩
      exact ⟨v', rfl, mk _ _ ho, hb⟩
  · obtain ⟨g, off, rfl, _, _, _⟩ := strs_at h (i := 0) (by omega)
    refine (Try.slices_Clone_string g off l.length c l w (Nat.le_refl _) (by omega) (strs_all h)).mono ?_
    rintro e w' ⟨v', rfl, ho, _, hb⟩
    rw [List.take_length] at ho
    exact ⟨v', rfl, mk _ _ ho, hb⟩
end Go.Proofs.Ytbjblchhenmgjaa
set_option linter.unusedVariables false
set_option linter.unusedSimpArgs false
namespace Go.Proofs.Ytbjblchhenmgjaa
open Go.ChangeShapes Go.WideShapes Go.ChangeAt Go.RowKit

theorem gb_fresh {α : Type} {w w1 : World} {e : TypeId} {k : Nat} {f : α → List D} {v : Value} {l : List α} {us : List Value} {fi : List Nat} (hb : Below w.heap.size w w1) (hn : OwS w1 w.heap.size e k f v l us fi) : GB w w1 (.slice none 0 0) v := by
  refine ⟨⟨hb.os, hb.tape, hb.output, hb.size, fun i hi _ => hb.block i hi⟩, ?_⟩
  cases hv : v.ownBlock with
  | none => exact .inl rfl
  | some g => exact .inr ⟨g, rfl, hn.from hv⟩
def FirstI (k : Kind) : Prop := ∀ (us : List Value) (fp : List Nat) (lv : Nat) (w : World), OwC w k.cells us fp → Lt fp w.heap.size → k.bulk ≤ 1048576 → k.good lv →
  Calls Try.prog 117 #[.agg us.toArray] w (FirstRet k.firstT w)
set_option maxRecDepth 100000 in
set_option maxHeartbeats 2000000 in
theorem firstI_of (k : Kind) (ih : ∀ x ∈ k.kids, FirstI x) : FirstI k := by
  intro us fp lv w hk hf hbk hg
  obtain ⟨A1, c1, A2, c2, f1, f2, rfl, w0, o1, o2, rfl⟩ := hk.oKind
  obtain ⟨_, hcap1, hmx1⟩ := o1.nlen
  obtain ⟨_, hcap2, hmx2⟩ := o2.nlen
  unfold maxLen at hmx1 hmx2
  have hkb := k.bulk_eq
  unfold bulkStrs at hkb
  have RK : Row (((w.alloc (.cells #[.int .i64 k.sort, .slice A1 k.names.length c1, .slice A2 k.kids.length c2] 47)).alloc (.cells #[.int .i64 0, .int .i64 0, .string .empty, .slice none 0 0, .slice none 0 0] 26)).alloc (.cells #[.int .i64 k.sort, .int .i64 0, .string .empty, .slice none 0 0, .slice none 0 0] 26)) w.heap.size 47 [.int .i64 k.sort, .slice A1 k.names.length c1, .slice A2 k.kids.length c2] := ((Row.new w _ _).alloc _).alloc _
  have RZ : Row (((w.alloc (.cells #[.int .i64 k.sort, .slice A1 k.names.length c1, .slice A2 k.kids.length c2] 47)).alloc (.cells #[.int .i64 0, .int .i64 0, .string .empty, .slice none 0 0, .slice none 0 0] 26)).alloc (.cells #[.int .i64 k.sort, .int .i64 0, .string .empty, .slice none 0 0, .slice none 0 0] 26)) (w.heap.size + 1) 26 [.int .i64 0, .int .i64 0, .string .empty, .slice none 0 0, .slice none 0 0] := by
    have h := (Row.new (w.alloc (.cells #[.int .i64 k.sort, .slice A1 k.names.length c1, .slice A2 k.kids.length c2] 47)) 26 [.int .i64 0, .int .i64 0, .string .empty, .slice none 0 0, .slice none 0 0]).alloc (.cells #[.int .i64 k.sort, .int .i64 0, .string .empty, .slice none 0 0, .slice none 0 0] 26)
    rw [World.size_alloc] at h
    exact h
  have RT : Row (((w.alloc (.cells #[.int .i64 k.sort, .slice A1 k.names.length c1, .slice A2 k.kids.length c2] 47)).alloc (.cells #[.int .i64 0, .int .i64 0, .string .empty, .slice none 0 0, .slice none 0 0] 26)).alloc (.cells #[.int .i64 k.sort, .int .i64 0, .string .empty, .slice none 0 0, .slice none 0 0] 26)) (w.heap.size + 2) 26 [.int .i64 k.sort, .int .i64 0, .string .empty, .slice none 0 0, .slice none 0 0] := by
    have h := Row.new ((w.alloc (.cells #[.int .i64 k.sort, .slice A1 k.names.length c1, .slice A2 k.kids.length c2] 47)).alloc (.cells #[.int .i64 0, .int .i64 0, .string .empty, .slice none 0 0, .slice none 0 0] 26)) 26 [.int .i64 k.sort, .int .i64 0, .string .empty, .slice none 0 0, .slice none 0 0]
    rw [World.size_alloc, World.size_alloc] at h
    exact h
  have HT0 := hide (show TreeAt (((w.alloc (.cells #[.int .i64 k.sort, .slice A1 k.names.length c1, .slice A2 k.kids.length c2] 47)).alloc (.cells #[.int .i64 0, .int .i64 0, .string .empty, .slice none 0 0, .slice none 0 0] 26)).alloc (.cells #[.int .i64 k.sort, .int .i64 0, .string .empty, .slice none 0 0, .slice none 0 0] 26)) (w.heap.size + 2) k.sort (.slice none 0 0) [] [] (.slice none 0 0) [] [] [] from ⟨RT, OwS.nil _ _ _ _ _, OwS.nil _ _ _ _ _, by omega, fun g h => (by cases h), fun g h => (by cases h), fun g h => (by cases h), fun g h => (by cases h)⟩)
  have HB0 := hide (show Below w.heap.size w (((w.alloc (.cells #[.int .i64 k.sort, .slice A1 k.names.length c1, .slice A2 k.kids.length c2] 47)).alloc (.cells #[.int .i64 0, .int .i64 0, .string .empty, .slice none 0 0, .slice none 0 0] 26)).alloc (.cells #[.int .i64 k.sort, .int .i64 0, .string .empty, .slice none 0 0, .slice none 0 0] 26)) from (((Below.refl _ w).alloc (Nat.le_refl _) _).alloc (by rw [World.size_alloc]; omega) _).alloc (by rw [World.size_alloc, World.size_alloc]; omega) _)
  have HK0 := hide RK
  have HZ0 := hide RZ
  have O1 := hide o1
  have O2 := hide o2
  have HG := hide hg
  have HI := hide ih
  have hfe := hide (k.firstT_eq lv hg)
  obtain ⟨ia, hia, ha0, ha1, ha2⟩ := info_parts info_string
  obtain ⟨ib, hib, hb0, hb1, hb2⟩ := info_parts info_Tree'
  have HIa := hide hia
  have HIb := hide hib
  clear hk o1 o2 hg ih RK RZ RT hia hib
  by_cases hs5 : k.sort = 5
  · have b5 : (k.sort == 5) = true := by simp [hs5]
    have HFT := hide (k.firstT_five hs5)
    clear hs5
    go_enter Try.func117, Try.ntmps117
    go_wp2_with fail
    refine (cloneStr_any k.names _ _ _ _ _ (O1.out.below HB0.out hf.left) (by omega)).mono ?_
    rintro e w2 ⟨v', rfl, hv', hb2⟩
    obtain ⟨Bv, dv, rfl⟩ := hv'.form
    have hsz3 : (((w.alloc (.cells #[.int .i64 k.sort, .slice A1 k.names.length c1, .slice A2 k.kids.length c2] 47)).alloc (.cells #[.int .i64 0, .int .i64 0, .string .empty, .slice none 0 0, .slice none 0 0] 26)).alloc (.cells #[.int .i64 k.sort, .int .i64 0, .string .empty, .slice none 0 0, .slice none 0 0] 26)).heap.size = w.heap.size + 3 := by simp only [World.size_alloc]
    have HV := hide (show OwS w2 (w.heap.size + 2 + 1) 9 1 strC (.slice Bv k.names.length dv) k.names (k.names.map Value.string) [] from by have h := hv'; rw [hsz3] at h; exact h)
    have HGB := hide (gb_fresh hb2 hv')
    have r2 := HT0.out.row1 HGB.out
    have t3 : w2.cell? ⟨w.heap.size + 2, 3, none⟩ = some (.slice none 0 0) := r2.cell 3
    have t3f : w2.frozen? ⟨w.heap.size + 2, 3, none⟩ = false := r2.frozen 3
    have lt2 := r2.lt
    have HT1 := hide (HT0.out.put1 HGB.out HV.out 3 rfl (fun g hg => by cases hg))
    have HB1 := hide (HB0.out.trans ((hb2.mono HB0.out.size).setCell (p := ⟨w.heap.size + 2, 3, none⟩) (by show w.heap.size ≤ w.heap.size + 2; omega) (.slice Bv k.names.length dv)))
    have HK1 := hide (Row.far (p := ⟨w.heap.size + 2, 3, none⟩) (HK0.out.below hb2 HK0.out.lt) (by simp) (.slice Bv k.names.length dv))
    have HZ1 := hide (Row.far (p := ⟨w.heap.size + 2, 3, none⟩) (HZ0.out.below hb2 HZ0.out.lt) (by simp) (.slice Bv k.names.length dv))
    have lkk := (HK0.out.below hb2 HK0.out.lt).lt
    have k2c : w2.cell? ⟨w.heap.size, 2, none⟩ = some (.slice A2 k.kids.length c2) := (HK0.out.below hb2 HK0.out.lt).cell 2
    clear hv' hb2 r2 HT0 HB0 HK0 HZ0 HV HGB
    go_wp2
    go_loopw [19] (fun i wr => (∃ (j : Nat) (B2 : Option Addr) (n2 d2 : Nat) (us2 : List Value) (fi2 : List Nat), j ≤ k.kids.length ∧ i = .int .i64 (j : Int) ∧ TreeAt wr (w.heap.size + 2) k.sort (.slice Bv k.names.length dv) k.names (k.names.map Value.string) (.slice B2 n2 d2) ((k.kids.take j).map Kind.firstT) us2 fi2) ∧ Below w.heap.size w wr ∧ Row wr w.heap.size 47 [.int .i64 k.sort, .slice A1 k.names.length c1, .slice A2 k.kids.length c2] ∧ Row wr (w.heap.size + 1) 26 [.int .i64 0, .int .i64 0, .string .empty, .slice none 0 0, .slice none 0 0]) (fun i _ => k.kids.length - (intOf i).toNat)
    case atStart => exact ⟨⟨0, none, 0, 0, [], [], Nat.zero_le _, rfl, HT1.out⟩, HB1.out, HK1.out, HZ1.out⟩
    case round =>
      obtain ⟨⟨j, B2, n2, d2, us2, fi2, hj, rfl, hT⟩, hb, hrk, hrz⟩ := hrel
      have HB := hide hb
      have HRK := hide hrk
      have HRZ := hide hrz
      obtain ⟨B1, n1, d1, us1, hB1, hn1, hd1, hu1⟩ : ∃ (B1 : Option Addr) (n1 d1 : Nat) (us1 : List Value), B1 = Bv ∧ n1 = k.names.length ∧ d1 = dv ∧ us1 = k.names.map Value.string := ⟨_, _, _, _, rfl, rfl, rfl, rfl⟩
      have hT : TreeAt wr (w.heap.size + 2) k.sort (.slice B1 n1 d1) k.names us1 (.slice B2 n2 d2) ((k.kids.take j).map Kind.firstT) us2 fi2 := by
        subst hB1 hn1 hd1 hu1
        exact hT
      have HBACK := hide (show ∀ W v2 l2 us2 fi2, TreeAt W (w.heap.size + 2) k.sort (.slice B1 n1 d1) k.names us1 v2 l2 us2 fi2 → TreeAt W (w.heap.size + 2) k.sort (.slice Bv k.names.length dv) k.names (k.names.map Value.string) v2 l2 us2 fi2 from by
        subst hB1 hn1 hd1 hu1
        exact fun _ _ _ _ _ h => h)
      have hszA : w.heap.size + 3 ≤ wr.heap.size := by have := hT.box.lt; omega
      clear hb hrk hrz HT1 HB1 HK1 HZ1 t3 t3f lt2 lkk k2c hB1 hn1 hd1 hu1
      by_cases hlt2 : j < k.kids.length
      · have HSK := hide (kids_snoc k.kids j hlt2)
        obtain ⟨ga, offa, wsa, fia, rfl, hgma, hfia, hwla, hcsa, hova⟩ := (O2.out.below HB.out hf.right).elem Kind.cells_len hlt2
        have HOa := hide hova
        have HFa := hide ((hf.right.sub hfia).up HB.out)
        have HGa := hide (Kind.kid_good HG.out hlt2)
        have hba := Nat.le_trans (Kind.kid_bulk hlt2) hbk
        have hgla := hf.right _ hgma
        have hgwa := Nat.lt_of_lt_of_le hgla HB.out.size
        have HC := hide (HI.out _ (List.getElem_mem hlt2))
        obtain ⟨C1a, m1a, C2a, m2a, s1a, s2a, rfl, n0a, l1a, l2a, rfl⟩ := hova.oKind
        have p0a := hcsa 0 _ rfl
        have p1a := hcsa 1 _ rfl
        have p2a := hcsa 2 _ rfl
        simp only [Nat.add_zero] at p0a
        clear hcsa hova l1a l2a hfia
        generalize k.kids[j] = x at *
        obtain ⟨wc, hwc⟩ : ∃ wc, wr.alloc (.cells #[.int .i64 x.sort, .slice C1a x.names.length m1a, .slice C2a x.kids.length m2a] 47) = wc := ⟨_, rfl⟩
        have hbA : Below wr.heap.size wr wc := hwc ▸ (Below.refl _ _).alloc (Nat.le_refl _) _
        have RX : Row wc wr.heap.size 47 [.int .i64 x.sort, .slice C1a x.names.length m1a, .slice C2a x.kids.length m2a] := hwc ▸ Row.new wr _ _
        have HTc := hide (hT.below hbA)
        have HBc := hide (HB.out.trans (hbA.mono HB.out.size))
        have HRKc := hide (HRK.out.below hbA HRK.out.lt)
        have HRZc := hide (HRZ.out.below hbA HRZ.out.lt)
        have HOa := hide (HOa.out.below hbA HFa.out)
        have HFa := hide (HFa.out.up hbA)
        have hszA := Nat.le_trans hszA hbA.size
        have t4 : wc.cell? ⟨w.heap.size + 2, 4, none⟩ = some (.slice B2 n2 d2) := HTc.out.box.cell 4
        have lt1 := HTc.out.box.lt
        have x0 := RX.cell 0
        have x1 := RX.cell 1
        have x2 := RX.cell 2
        have lx := RX.lt
        have hwC := hwc
        clear hT hbA hwc RX
        go_wp2
        go_region_law (first | (refine step_app (by rfl) _ _ 24 (by rfl) ib _ 80 Try.underlying24 HIb.out hb0 hb1 hb2 rfl (by decide) Tree.cells_len (by rfl) HT4.out.two [x.firstT] (by rw [List.flatMap_singleton]; exact HO4.out) (New.app HT4.out.two.new (HN4.out.mono (Nat.le_refl _)) (fun g hg => HTc.out.two.new.lt g hg) (by exact hszA)) (fun g e hm => by have h1 := HTc.out.two.lt g e; have h2 := (HN3.out.fr g hm).1; exact absurd h1 (Nat.not_lt.2 h2)) _ 1 1 (by rfl) rfl (SrcAt.new w3 _ _ _ _) (by rw [List.length_map, List.length_take]; omega) (by decide) (by rw [World.size_alloc]; exact Nat.le_succ_of_le (Nat.le_trans hszA HB3.out.size)) ?_; intro A' n' c' w5 hn5 hown5 hgb5; have HG5 := hide hgb5; have HN5 := hide hown5; have r5 := HT4.out.row2 hgb5; have q5 : w5.cell? ⟨w.heap.size + 2, 4, none⟩ = some (.slice B2 n2 d2) := r5.cell 4; have f5 : w5.frozen? ⟨w.heap.size + 2, 4, none⟩ = false := r5.frozen 4; have HNN5 := hide hn5; clear hown5 hgb5 r5 hn5) | (go_simp; go_at_call 117; refine (HC.out _ _ (lv + 1) _ (HOa.out.drewN 1) (HFa.out.mono (Nat.le_refl _)) hba HGa.out).mono ?_; rintro e w3 ⟨us3, fq3, rfl, ho3, hn3, hb3⟩; have HO3 := hide ho3; have HN3 := hide hn3; obtain ⟨E1, e1, E2, e2, g1, g2, rfl, y0, y1, y2, z1, z2, efq⟩ := ho3.oTree; have HT3 := hide ((HTc.out.drewN 1).below hb3); have HB3 := hide ((below_drewN (Below.refl wc.heap.size wc) 1).trans hb3); have t4c : w3.cell? ⟨w.heap.size + 2, 4, none⟩ = some (.slice B2 n2 d2) := HT3.out.box.cell 4; have lt3 := HT3.out.box.lt; have HT4 := hide (HT3.out.alloc (.cells #[.int .i64 x.firstT.sort, .int .i64 x.firstT.num, .string x.firstT.text, .slice E1 x.firstT.names.length e1, .slice E2 x.firstT.kids.length e2] 26)); have HO4 := hide (HO3.out.alloc HN3.out.lt (.cells #[.int .i64 x.firstT.sort, .int .i64 x.firstT.num, .string x.firstT.text, .slice E1 x.firstT.names.length e1, .slice E2 x.firstT.kids.length e2] 26)); have HN4 := hide (HN3.out.alloc (.cells #[.int .i64 x.firstT.sort, .int .i64 x.firstT.num, .string x.firstT.text, .slice E1 x.firstT.names.length e1, .slice E2 x.firstT.kids.length e2] 26)); clear ho3 hn3 hb3 z1 z2 efq))
        all_goals
          have HF5 := hide (fun W (hW : W = w5.setCell ⟨w.heap.size + 2, 4, none⟩ (.slice A' n' c')) => show TreeAt W (w.heap.size + 2) k.sort (.slice B1 n1 d1) k.names us1 (.slice A' n' c') (((k.kids.take j).map Kind.firstT) ++ [x.firstT]) (us2 ++ [.int .i64 x.firstT.sort, .int .i64 x.firstT.num, .string x.firstT.text, .slice E1 x.firstT.names.length e1, .slice E2 x.firstT.kids.length e2]) (fi2 ++ fq3) ∧ Below w.heap.size w W ∧ Row W w.heap.size 47 [.int .i64 k.sort, .slice A1 k.names.length c1, .slice (some ⟨ga, offa, none⟩) k.kids.length c2] ∧ Row W (w.heap.size + 1) 26 [.int .i64 0, .int .i64 0, .string .empty, .slice none 0 0, .slice none 0 0] from by
            subst hW
            refine ⟨HT4.out.put2 HG5.out HN5.out 4 rfl (fun g hg => ?_), ?_, ?_, ?_⟩
            · rcases List.mem_append.1 hg with hg | hg
              · exact .inl hg
              · exact .inr ⟨fun e => absurd (HTc.out.one.lt g e) (Nat.not_lt.2 (HN3.out.fr g hg).1), fun h => by cases h⟩
            · exact HBc.out.trans ((HB3.out.mono HBc.out.size).trans (((Below.refl w.heap.size w3).alloc (Nat.le_trans HBc.out.size HB3.out.size) _).trans (HT4.out.frame2 HG5.out (by rw [World.size_alloc]; exact Nat.le_succ_of_le (Nat.le_trans hszA HB3.out.size)) 4 _ (by omega))))
            · exact Row.far (p := ⟨w.heap.size + 2, 4, none⟩) (HG5.out.row ((HRKc.out.below HB3.out HRKc.out.lt).alloc _) (HT4.out.two.low (by omega))) (by simp) _
            · exact Row.far (p := ⟨w.heap.size + 2, 4, none⟩) (HG5.out.row ((HRZc.out.below HB3.out HRZc.out.lt).alloc _) (HT4.out.two.low (by omega))) (by simp) _)
          go_wp2
          go_roundw
          case rel => exact ⟨⟨j + 1, A', n', c', _, _, by omega, by go_num, HBACK.out _ _ _ _ _ (by rw [HSK.out]; exact (HF5.out _ rfl).1)⟩, (HF5.out _ rfl).2⟩
          case measure => simp [intOf]; omega
      · obtain rfl : j = k.kids.length := by omega
        rw [List.take_length] at hT
        have HT := hide hT
        have r0 : wr.cell? ⟨w.heap.size + 2, 0, none⟩ = some (.int .i64 k.sort) := hT.box.cell 0
        have r1 : wr.cell? ⟨w.heap.size + 2, 1, none⟩ = some (.int .i64 0) := hT.box.cell 1
        have r2 : wr.cell? ⟨w.heap.size + 2, 2, none⟩ = some (.string .empty) := hT.box.cell 2
        have r3 : wr.cell? ⟨w.heap.size + 2, 3, none⟩ = some (.slice B1 n1 d1) := hT.box.cell 3
        have r4 : wr.cell? ⟨w.heap.size + 2, 4, none⟩ = some (.slice B2 n2 d2) := hT.box.cell 4
        have lt1 := hT.box.lt
        clear hT
        have z0 := HRZ.out.cell 0
        have y0 := HRZ.out.frozen 0
        have z1 := HRZ.out.cell 1
        have y1 := HRZ.out.frozen 1
        have z2 := HRZ.out.cell 2
        have y2 := HRZ.out.frozen 2
        have z3 := HRZ.out.cell 3
        have y3 := HRZ.out.frozen 3
        have z4 := HRZ.out.cell 4
        have y4 := HRZ.out.frozen 4
        go_wp2
        refine bodyPost_ret (ret_row rfl _ _ (w.heap.size + 1) 26 (treeMk k.sort (.slice B1 n1 d1) (.slice B2 n2 d2)) (HRZ.out.setAll (treeMk k.sort (.slice B1 n1 d1) (.slice B2 n2 d2)) rfl) _ rfl Try.underlying26 rfl (by kernel_rfl)) rfl ?_
        obtain ⟨fq, hx1, hx2, hx3⟩ := first_fin HT.out w0 HB.out (setN_grown (treeMk k.sort (.slice B1 n1 d1) (.slice B2 n2 d2)) 0 (grown_refl wr (some (w.heap.size + 1)))) (by omega) (Nat.le_succ _)
        refine ⟨_, fq, rfl, ?_, hx2, hx3⟩
        rw [HFT.out]
        exact hx1
  · have b5 : (k.sort == 5) = false := by simp [hs5]
    have HFT := hide (k.firstT_other hs5)
    have HFX := hide (fun W => show OwC W (Tree.mk k.sort 0 .empty [] []).cells (treeMk k.sort (.slice none 0 0) (.slice none 0 0)) [] from OwC.mTree (x := Tree.mk k.sort 0 .empty [] []) (v1 := .slice none 0 0) (v2 := .slice none 0 0) (f1 := []) (f2 := []) w0 wfz empty_le (Ow.nil_ W 1 strC) (Ow.nil_ W 5 Tree.cells))
    have HRF := hide (show Row (((w.alloc (.cells #[.int .i64 k.sort, .slice A1 k.names.length c1, .slice A2 k.kids.length c2] 47)).alloc (.cells #[.int .i64 k.sort, .int .i64 0, .string .empty, .slice none 0 0, .slice none 0 0] 26)).alloc (.cells #[.int .i64 k.sort, .int .i64 0, .string .empty, .slice none 0 0, .slice none 0 0] 26)) (w.heap.size + 1) 26 (treeMk k.sort (.slice none 0 0) (.slice none 0 0)) from by
      have h := (Row.new (w.alloc (.cells #[.int .i64 k.sort, .slice A1 k.names.length c1, .slice A2 k.kids.length c2] 47)) 26 [.int .i64 k.sort, .int .i64 0, .string .empty, .slice none 0 0, .slice none 0 0]).alloc (.cells #[.int .i64 k.sort, .int .i64 0, .string .empty, .slice none 0 0, .slice none 0 0] 26)
      rw [World.size_alloc] at h
      exact h)
    have HBF := hide (show Below w.heap.size w (((w.alloc (.cells #[.int .i64 k.sort, .slice A1 k.names.length c1, .slice A2 k.kids.length c2] 47)).alloc (.cells #[.int .i64 k.sort, .int .i64 0, .string .empty, .slice none 0 0, .slice none 0 0] 26)).alloc (.cells #[.int .i64 k.sort, .int .i64 0, .string .empty, .slice none 0 0, .slice none 0 0] 26)) from (((Below.refl _ w).alloc (Nat.le_refl _) _).alloc (by rw [World.size_alloc]; omega) _).alloc (by rw [World.size_alloc, World.size_alloc]; omega) _)
    clear hs5
    go_enter Try.func117, Try.ntmps117
    go_wp2
    refine bodyPost_ret (ret_row rfl _ _ (w.heap.size + 1) 26 (treeMk k.sort (.slice none 0 0) (.slice none 0 0)) (by first | exact HRF.out | exact HZ0.out.setAll (treeMk k.sort (.slice none 0 0) (.slice none 0 0)) rfl) _ rfl Try.underlying26 rfl (by kernel_rfl)) rfl ?_
    refine ⟨_, [], rfl, by rw [HFT.out]; exact HFX.out _, New.nil _ _, ?_⟩
    first
    | exact HBF.out
    | exact HB0.out.trans (below_of_grown (setN_grown (treeMk k.sort (.slice none 0 0) (.slice none 0 0)) 0 (grown_refl (((w.alloc (.cells #[.int .i64 k.sort, .slice A1 k.names.length c1, .slice A2 k.kids.length c2] 47)).alloc (.cells #[.int .i64 0, .int .i64 0, .string .empty, .slice none 0 0, .slice none 0 0] 26)).alloc (.cells #[.int .i64 k.sort, .int .i64 0, .string .empty, .slice none 0 0, .slice none 0 0] 26)) (some (w.heap.size + 1)))) (Nat.le_succ _) HB0.out.size)
theorem firstI_any (k : Kind) : FirstI k := Kind.ind firstI_of k
end Go.Proofs.Ytbjblchhenmgjaa
set_option linter.unusedVariables false
set_option linter.unusedSimpArgs false
namespace Go.Proofs.Ytbjblchhenmgjaa
open Go.ChangeShapes Go.WideShapes Go.ChangeAt Go.RowKit

abbrev treeMk2 (t : Tree) : Value → Value → List Value := fun a b => [.int .i64 t.sort, .int .i64 t.num, .string t.text, a, b]

set_option maxRecDepth 100000 in
set_option maxHeartbeats 1000000 in
theorem specKindFirst_any (k : Kind) (us : List Value) (fp : List Nat) (w : World) (hk : OwC w k.cells us fp) (hf : Lt fp w.heap.size) (hbk : k.bulk ≤ 1048576) :
    Calls Try.prog 44 #[.agg us.toArray] w (FirstRet k.firstOf w) := by
  have HK := hide hk
  obtain ⟨A1, c1, A2, c2, f1, f2, rfl, w0, o1, o2, efp⟩ := hk.oKind
  clear hk o1 o2 efp
  have RK : Row ((w.alloc (.cells #[.int .i64 k.sort, .slice A1 k.names.length c1, .slice A2 k.kids.length c2] 47)).alloc (.cells #[.int .i64 0, .int .i64 0, .string .empty, .slice none 0 0, .slice none 0 0] 26)) w.heap.size 47 [.int .i64 k.sort, .slice A1 k.names.length c1, .slice A2 k.kids.length c2] := (Row.new w _ _).alloc _
  have RZ : Row ((w.alloc (.cells #[.int .i64 k.sort, .slice A1 k.names.length c1, .slice A2 k.kids.length c2] 47)).alloc (.cells #[.int .i64 0, .int .i64 0, .string .empty, .slice none 0 0, .slice none 0 0] 26)) (w.heap.size + 1) 26 [.int .i64 0, .int .i64 0, .string .empty, .slice none 0 0, .slice none 0 0] := by
    have h := Row.new (w.alloc (.cells #[.int .i64 k.sort, .slice A1 k.names.length c1, .slice A2 k.kids.length c2] 47)) 26 [.int .i64 0, .int .i64 0, .string .empty, .slice none 0 0, .slice none 0 0]
    rw [World.size_alloc] at h
    exact h
  have B0 := hide (show Below w.heap.size w ((w.alloc (.cells #[.int .i64 k.sort, .slice A1 k.names.length c1, .slice A2 k.kids.length c2] 47)).alloc (.cells #[.int .i64 0, .int .i64 0, .string .empty, .slice none 0 0, .slice none 0 0] 26)) from ((Below.refl _ w).alloc (Nat.le_refl _) _).alloc (by rw [World.size_alloc]; omega) _)
  go_enter Try.func44, Try.ntmps44
  go_wp2_with fail
  refine (specKindOk_any k _ _ _ (HK.out.below B0.out hf) (hf.up B0.out) hbk).mono ?_
  rintro e w2 ⟨rfl, hb2⟩
  have B2 := hide (B0.out.trans (hb2.mono B0.out.size))
  have RK2 := RK.below hb2 RK.lt
  have RZ2 := hide (RZ.below hb2 RZ.lt)
  clear RK RZ hb2
  have k0 := RK2.cell 0
  have k1 := RK2.cell 1
  have k2 := RK2.cell 2
  have lk := RK2.lt
  have lz := RZ2.out.lt
  by_cases hok : k.ok
  · rw [tb_true hok]
    have HG := hide hok
    have HR := hide (show k.firstOf = k.firstT from by unfold Kind.firstOf; rw [if_pos (tb_true hok)])
    clear hok
    go_wp2_with fail
    refine (firstW_any k _ _ 1 _ (HK.out.below B2.out hf) (hf.up B2.out) hbk HG.out.1).mono ?_
    rintro e w3 ⟨us, fq, rfl, ho3, hn3, hb3⟩
    obtain ⟨E1, e1, E2, e2, g1, g2, rfl, y0, y1, y2, z1, z2, efq⟩ := ho3.oTree
    have HO3 := hide ho3
    have HN3 := hide hn3
    have hnot : w.heap.size + 1 ∉ fq := fun hm => by have := (hn3.fr _ hm).1; omega
    have B3 := hide (B2.out.trans (hb3.mono B2.out.size))
    have RZ3 := hide (RZ2.out.below hb3 lz)
    clear ho3 hn3 hb3 z1 z2 RZ2 RK2 k0 k1 k2 lk lz efq
    have lz := RZ3.out.lt
    have q0 := RZ3.out.cell 0
    have y0f := RZ3.out.frozen 0
    have q1 := RZ3.out.cell 1
    have y1f := RZ3.out.frozen 1
    have q2 := RZ3.out.cell 2
    have y2f := RZ3.out.frozen 2
    have q3 := RZ3.out.cell 3
    have y3f := RZ3.out.frozen 3
    have q4 := RZ3.out.cell 4
    have y4f := RZ3.out.frozen 4
    go_wp2
    refine bodyPost_ret (ret_row rfl _ _ (w.heap.size + 1) 26 (treeMk2 k.firstT (.slice E1 k.firstT.names.length e1) (.slice E2 k.firstT.kids.length e2)) (RZ3.out.setAll (treeMk2 k.firstT (.slice E1 k.firstT.names.length e1) (.slice E2 k.firstT.kids.length e2)) rfl) _ rfl Try.underlying26 rfl (by kernel_rfl)) rfl ?_
    have hgr := setN_grown (treeMk2 k.firstT (.slice E1 k.firstT.names.length e1) (.slice E2 k.firstT.kids.length e2)) 0 (grown_refl w3 (some (w.heap.size + 1)))
    exact ⟨_, fq, rfl, by rw [HR.out]; exact HO3.out.grown hgr HN3.out.lt hnot, (HN3.out.grown hgr (fun g e => by injection e with e; subst e; exact hnot)).mono B2.out.size, B3.out.trans (below_of_grown hgr (Nat.le_succ _) B3.out.size)⟩
  · rw [tb_false hok]
    have HR := hide (show k.firstOf = Tree.none_ from by unfold Kind.firstOf; rw [if_neg (by rw [tb_false hok]; simp)])
    clear hok
    have q0 := RZ2.out.cell 0
    have y0f := RZ2.out.frozen 0
    have q1 := RZ2.out.cell 1
    have y1f := RZ2.out.frozen 1
    have q2 := RZ2.out.cell 2
    have y2f := RZ2.out.frozen 2
    have q3 := RZ2.out.cell 3
    have y3f := RZ2.out.frozen 3
    have q4 := RZ2.out.cell 4
    have y4f := RZ2.out.frozen 4
    go_wp2
    refine bodyPost_ret (ret_row rfl _ _ (w.heap.size + 1) 26 (treeMk 0 (.slice none 0 0) (.slice none 0 0)) (RZ2.out.setAll (treeMk 0 (.slice none 0 0) (.slice none 0 0)) rfl) _ rfl Try.underlying26 rfl (by kernel_rfl)) rfl ?_
    have hgr := setN_grown (treeMk 0 (.slice none 0 0) (.slice none 0 0)) 0 (grown_refl w2 (some (w.heap.size + 1)))
    exact ⟨_, [], rfl, by rw [HR.out]; exact treeNone_ow _, New.nil _ _, B2.out.trans (below_of_grown hgr (Nat.le_succ _) B2.out.size)⟩

set_option maxRecDepth 100000 in
set_option maxHeartbeats 1000000 in
theorem implKindFirst_any (k : Kind) (us : List Value) (fp : List Nat) (w : World) (hk : OwC w k.cells us fp) (hf : Lt fp w.heap.size) (hbk : k.bulk ≤ 1048576) :
    Calls Try.prog 46 #[.agg us.toArray] w (FirstRet k.firstOf w) := by
  have HK := hide hk
  obtain ⟨A1, c1, A2, c2, f1, f2, rfl, w0, o1, o2, efp⟩ := hk.oKind
  clear hk o1 o2 efp
  have RK : Row ((w.alloc (.cells #[.int .i64 k.sort, .slice A1 k.names.length c1, .slice A2 k.kids.length c2] 47)).alloc (.cells #[.int .i64 0, .int .i64 0, .string .empty, .slice none 0 0, .slice none 0 0] 26)) w.heap.size 47 [.int .i64 k.sort, .slice A1 k.names.length c1, .slice A2 k.kids.length c2] := (Row.new w _ _).alloc _
  have RZ : Row ((w.alloc (.cells #[.int .i64 k.sort, .slice A1 k.names.length c1, .slice A2 k.kids.length c2] 47)).alloc (.cells #[.int .i64 0, .int .i64 0, .string .empty, .slice none 0 0, .slice none 0 0] 26)) (w.heap.size + 1) 26 [.int .i64 0, .int .i64 0, .string .empty, .slice none 0 0, .slice none 0 0] := by
    have h := Row.new (w.alloc (.cells #[.int .i64 k.sort, .slice A1 k.names.length c1, .slice A2 k.kids.length c2] 47)) 26 [.int .i64 0, .int .i64 0, .string .empty, .slice none 0 0, .slice none 0 0]
    rw [World.size_alloc] at h
    exact h
  have B0 := hide (show Below w.heap.size w ((w.alloc (.cells #[.int .i64 k.sort, .slice A1 k.names.length c1, .slice A2 k.kids.length c2] 47)).alloc (.cells #[.int .i64 0, .int .i64 0, .string .empty, .slice none 0 0, .slice none 0 0] 26)) from ((Below.refl _ w).alloc (Nat.le_refl _) _).alloc (by rw [World.size_alloc]; omega) _)
  go_enter Try.func46, Try.ntmps46
  go_wp2_with fail
  refine (implKindOk_any k _ _ _ (HK.out.below B0.out hf) (hf.up B0.out) hbk).mono ?_
  rintro e w2 ⟨rfl, hb2⟩
  have B2 := hide (B0.out.trans (hb2.mono B0.out.size))
  have RK2 := RK.below hb2 RK.lt
  have RZ2 := hide (RZ.below hb2 RZ.lt)
  clear RK RZ hb2
  have k0 := RK2.cell 0
  have k1 := RK2.cell 1
  have k2 := RK2.cell 2
  have lk := RK2.lt
  have lz := RZ2.out.lt
  by_cases hok : k.ok
  · rw [tb_true hok]
    have HG := hide hok
    have HR := hide (show k.firstOf = k.firstT from by unfold Kind.firstOf; rw [if_pos (tb_true hok)])
    clear hok
    go_wp2_with fail
    refine (firstI_any k _ _ 1 _ (HK.out.below B2.out hf) (hf.up B2.out) hbk HG.out.1).mono ?_
    rintro e w3 ⟨us, fq, rfl, ho3, hn3, hb3⟩
    obtain ⟨E1, e1, E2, e2, g1, g2, rfl, y0, y1, y2, z1, z2, efq⟩ := ho3.oTree
    have HO3 := hide ho3
    have HN3 := hide hn3
    have hnot : w.heap.size + 1 ∉ fq := fun hm => by have := (hn3.fr _ hm).1; omega
    have B3 := hide (B2.out.trans (hb3.mono B2.out.size))
    have RZ3 := hide (RZ2.out.below hb3 lz)
    clear ho3 hn3 hb3 z1 z2 RZ2 RK2 k0 k1 k2 lk lz efq
    have lz := RZ3.out.lt
    have q0 := RZ3.out.cell 0
    have y0f := RZ3.out.frozen 0
    have q1 := RZ3.out.cell 1
    have y1f := RZ3.out.frozen 1
    have q2 := RZ3.out.cell 2
    have y2f := RZ3.out.frozen 2
    have q3 := RZ3.out.cell 3
    have y3f := RZ3.out.frozen 3
    have q4 := RZ3.out.cell 4
    have y4f := RZ3.out.frozen 4
    go_wp2
    refine bodyPost_ret (ret_row rfl _ _ (w.heap.size + 1) 26 (treeMk2 k.firstT (.slice E1 k.firstT.names.length e1) (.slice E2 k.firstT.kids.length e2)) (RZ3.out.setAll (treeMk2 k.firstT (.slice E1 k.firstT.names.length e1) (.slice E2 k.firstT.kids.length e2)) rfl) _ rfl Try.underlying26 rfl (by kernel_rfl)) rfl ?_
    have hgr := setN_grown (treeMk2 k.firstT (.slice E1 k.firstT.names.length e1) (.slice E2 k.firstT.kids.length e2)) 0 (grown_refl w3 (some (w.heap.size + 1)))
    exact ⟨_, fq, rfl, by rw [HR.out]; exact HO3.out.grown hgr HN3.out.lt hnot, (HN3.out.grown hgr (fun g e => by injection e with e; subst e; exact hnot)).mono B2.out.size, B3.out.trans (below_of_grown hgr (Nat.le_succ _) B3.out.size)⟩
  · rw [tb_false hok]
    have HR := hide (show k.firstOf = Tree.none_ from by unfold Kind.firstOf; rw [if_neg (by rw [tb_false hok]; simp)])
    clear hok
    have q0 := RZ2.out.cell 0
    have y0f := RZ2.out.frozen 0
    have q1 := RZ2.out.cell 1
    have y1f := RZ2.out.frozen 1
    have q2 := RZ2.out.cell 2
    have y2f := RZ2.out.frozen 2
    have q3 := RZ2.out.cell 3
    have y3f := RZ2.out.frozen 3
    have q4 := RZ2.out.cell 4
    have y4f := RZ2.out.frozen 4
    go_wp2
    refine bodyPost_ret (ret_row rfl _ _ (w.heap.size + 1) 26 (treeMk 0 (.slice none 0 0) (.slice none 0 0)) (RZ2.out.setAll (treeMk 0 (.slice none 0 0) (.slice none 0 0)) rfl) _ rfl Try.underlying26 rfl (by kernel_rfl)) rfl ?_
    have hgr := setN_grown (treeMk 0 (.slice none 0 0) (.slice none 0 0)) 0 (grown_refl w2 (some (w.heap.size + 1)))
    exact ⟨_, [], rfl, by rw [HR.out]; exact treeNone_ow _, New.nil _ _, B2.out.trans (below_of_grown hgr (Nat.le_succ _) B2.out.size)⟩
end Go.Proofs.Ytbjblchhenmgjaa
set_option linter.unusedVariables false
set_option linter.unusedSimpArgs false
namespace Go.Proofs.Ytbjblchhenmgjaa
open Go.ChangeShapes Go.WideShapes Go.ChangeAt Go.RowKit


theorem Tree.kid_bulk {k : Tree} {i : Nat} (h : i < k.kids.length) : k.kids[i].bulk ≤ k.bulk := by
  have h1 := Tree.bulkS_snoc k.kids i h
  have h2 := Tree.bulkS_le k.kids (i + 1)
  have h3 := k.bulk_eq
  omega
theorem Tree.kid_good {k : Tree} {lv i : Nat} (hg : k.good lv) (h : i < k.kids.length) : k.kids[i].good (lv + 1) := Tree.goodS_at ((Tree.good_iff _ _).1 hg).2.2 h

theorem names_ext {a b : List ByteArray} (hl : a.length = b.length) (h : ∀ i (h1 : i < a.length) (h2 : i < b.length), a[i] = b[i]) : a = b := List.ext_getElem hl h

end Go.Proofs.Ytbjblchhenmgjaa
set_option linter.unusedVariables false
set_option linter.unusedSimpArgs false
namespace Go.Proofs.Ytbjblchhenmgjaa
open Go.ChangeShapes Go.WideShapes Go.ChangeAt Go.RowKit

def HasI (t : Tree) : Prop := ∀ (k : Kind) (us vs : List Value) (fp fq : List Nat) (lv lw : Nat) (w : World), OwC w k.cells us fp → OwC w t.cells vs fq → Lt fp w.heap.size → Lt fq w.heap.size → k.bulk ≤ 1048576 → t.bulk ≤ 1048576 → k.good lv → t.good lw →
  Calls Try.prog 119 #[.agg us.toArray, .agg vs.toArray] w fun e w' => e = .returned (.bool (tb (t.of k))) ∧ Below w.heap.size w w'

set_option maxRecDepth 100000 in
set_option maxHeartbeats 2000000 in
theorem hasI_of (t : Tree) (ih : ∀ x ∈ t.kids, HasI x) : HasI t := by
  intro k us vs fp fq lv lw w hk ht hf hg hbk hbt hgk hgt
  obtain ⟨A1, c1, A2, c2, f1, f2, rfl, w0, o1, o2, rfl⟩ := hk.oKind
  obtain ⟨B1, d1, B2, d2, q1, q2, rfl, v0, v1, v2, x1, x2, rfl⟩ := ht.oTree
  have hw1 : Below w.heap.size w ((w.alloc (.cells #[.int .i64 k.sort, .slice A1 k.names.length c1, .slice A2 k.kids.length c2] 47)).alloc (.cells #[.int .i64 t.sort, .int .i64 t.num, .string t.text, .slice B1 t.names.length d1, .slice B2 t.kids.length d2] 26)) := ((Below.refl w.heap.size w).alloc (Nat.le_refl _) _).alloc (by simp) _
  have RK : Row ((w.alloc (.cells #[.int .i64 k.sort, .slice A1 k.names.length c1, .slice A2 k.kids.length c2] 47)).alloc (.cells #[.int .i64 t.sort, .int .i64 t.num, .string t.text, .slice B1 t.names.length d1, .slice B2 t.kids.length d2] 26)) w.heap.size 47 [.int .i64 k.sort, .slice A1 k.names.length c1, .slice A2 k.kids.length c2] := (Row.new w _ _).alloc _
  have RT : Row ((w.alloc (.cells #[.int .i64 k.sort, .slice A1 k.names.length c1, .slice A2 k.kids.length c2] 47)).alloc (.cells #[.int .i64 t.sort, .int .i64 t.num, .string t.text, .slice B1 t.names.length d1, .slice B2 t.kids.length d2] 26)) (w.heap.size + 1) 26 [.int .i64 t.sort, .int .i64 t.num, .string t.text, .slice B1 t.names.length d1, .slice B2 t.kids.length d2] := by
    have h := Row.new (w.alloc (.cells #[.int .i64 k.sort, .slice A1 k.names.length c1, .slice A2 k.kids.length c2] 47)) 26 [.int .i64 t.sort, .int .i64 t.num, .string t.text, .slice B1 t.names.length d1, .slice B2 t.kids.length d2]
    rw [World.size_alloc] at h
    exact h
  have hof := hide (t.of_iff k)
  have hkb := k.bulk_eq; unfold bulkStrs at hkb
  have htb := t.bulk_eq; unfold bulkStrs at htb
  have hB1 := hide hw1
  have O1 := hide o1
  have O2 := hide o2
  have X1 := hide x1
  have X2 := hide x2
  have HI := hide ih
  have HGK := hide hgk
  have HGT := hide hgt
  have lk1 := RK.lt
  have lt1 := RT.lt
  have hsk := hide ((k.shape_iff).1 ((Kind.good_iff _ _).1 hgk).2.1)
  have hst := hide (show t.shape from ((Tree.good_iff _ _).1 hgt).2.1)
  clear hk ht o1 o2 x1 x2 hw1 ih hgk hgt
  by_cases hs : k.sort = t.sort
  · have hb0 : (k.sort != t.sort) = false := by simp [hs]
    have HS := hide hs
    by_cases h5 : k.sort = 5
    · have b5 : (k.sort == 5) = true := by simp [h5]
      have H5 := hide h5
      clear hs h5
      go_enter Try.func119, Try.ntmps119
      go_wp2_with fail
      refine (equalStr_any k.names t.names _ _ _ _ _ _ _ _ _ (O1.out.below hB1.out hf.left) (X1.out.below hB1.out hg.left)).mono ?_
      rintro e w2 ⟨rfl, hb2⟩
      have HB2 := hide (hB1.out.trans (hb2.mono hB1.out.size))
      have RK2 := RK.below hb2 RK.lt
      have RT2 := RT.below hb2 RT.lt
      clear RK RT lk1 lt1
      have m0 := RT2.cell 4
      have m1 := RT2.lt
      by_cases hn : k.names = t.names
      · rw [tb_true hn]
        have HE := hide hn
        clear hn
        go_wp2
        go_loopw [29] (fun i wr => (∃ j : Nat, j ≤ t.kids.length ∧ i = .int .i64 j ∧ ∀ a (h : a < t.kids.length), a < j → t.kids[a].of (k.pick a)) ∧ Below w.heap.size w wr ∧ Row wr w.heap.size 47 [.int .i64 k.sort, .slice A1 k.names.length c1, .slice A2 k.kids.length c2]) (fun i _ => t.kids.length - (intOf i).toNat)
        case atStart => exact ⟨⟨0, Nat.zero_le _, rfl, fun a h1 h => absurd h (by omega)⟩, HB2.out, RK2⟩
        case round =>
          obtain ⟨⟨j, hj, rfl, ha⟩, hbw, RKw⟩ := hrel
          have HA2 := hide ha
          have HB := hide hbw
          have lk := RKw.lt
          clear ha hbw m0 m1 RT2 RK2
          by_cases hlt : j < t.kids.length
          · have hnl : k.names.length = t.names.length := by rw [HE.out]
            obtain ⟨hpos, hpl, hpick⟩ := Kind.pick_at HGK.out ((Tree.good_iff _ _).1 HGT.out).2.1 HS.out hnl hlt
            clear hnl
            obtain ⟨g, off, ws, fi, rfl, hgm, hfi, hwl, hcs, hov⟩ := (X2.out.below HB.out hg.right).elem Tree.cells_len hlt
            obtain ⟨g', off', ws', fi', rfl, hgm', hfi', hwl', hcs', hov'⟩ := (O2.out.below HB.out hf.right).elem Kind.cells_len hpos
            have HOT := hide hov
            have HFT := hide (((hg.right).up HB.out).sub hfi)
            have hgl := hg.right _ hgm
            have hgl' := hf.right _ hgm'
            have hgw := Nat.lt_of_lt_of_le hgl HB.out.size
            have hgw' := Nat.lt_of_lt_of_le hgl' HB.out.size
            have HC := hide (HI.out _ (List.getElem_mem hlt))
            have HTG := hide (Tree.kid_good HGT.out hlt)
            have htb1 := Nat.le_trans (Tree.kid_bulk hlt) hbt
            obtain ⟨D1, e1, D2, e2, r1, r2, rfl, y0, y1, y2, z1, z2, rfl⟩ := hov.oTree
            have p0 := hcs 0 _ rfl
            have p1 := hcs 1 _ rfl
            have p2 := hcs 2 _ rfl
            have p3 := hcs 3 _ rfl
            have p4 := hcs 4 _ rfl
            simp only [Nat.add_zero] at p0
            have hnext := hide (fun (h : t.kids[j].of (k.pick j)) (a : Nat) (ha : a < t.kids.length) (hl : a < j + 1) => show t.kids[a].of (k.pick a) from by
              by_cases e : a < j
              · exact HA2.out a ha e
              · obtain rfl : a = j := by omega
                exact h)
            have hbad := hide (fun (h : ¬ t.kids[j].of (k.pick j)) => tb_false (p := t.of k) (fun ht => h ((hof.out.1 ht).2.2 j hlt)))
            clear hcs hov z1 z2 hfi
            have hpl2 : j < k.kids.length := by simpa [H5.out] using hpl
            have hpick2 : k.pick j = k.kids[j]'hpl2 := by rw [hpick]; simp [H5.out]
            clear hpick hpl
            have hpl := hpl2
            obtain ⟨_, _, ws2, fi2, e3, _, hfi2, hwl2, hcs2, hov2⟩ := (O2.out.below HB.out hf.right).elem Kind.cells_len hpl
            injection e3 with e3
            injection e3 with e3 e4
            subst e3 e4
            have HOK := hide hov2
            have HFK := hide (((hf.right).up HB.out).sub hfi2)
            have HKG := hide (Kind.kid_good HGK.out hpl)
            have hkb1 := Nat.le_trans (Kind.kid_bulk hpl) hbk
            obtain ⟨C1, m1, C2, m2, s1, s2, rfl, n0, l1, l2, rfl⟩ := hov'.oKind
            obtain ⟨E1, n1, E2, n2, s3, s4, rfl, n3, l3, l4, rfl⟩ := hov2.oKind
            have i0 := hcs' 0 _ rfl
            have i1 := hcs' 1 _ rfl
            have i2 := hcs' 2 _ rfl
            simp only [Nat.zero_mul, Nat.add_zero] at i0 i1 i2
            have j0 := hcs2 0 _ rfl
            have j1 := hcs2 1 _ rfl
            have j2 := hcs2 2 _ rfl
            simp only [Nat.add_zero] at j0
            clear hcs' hcs2 hov' hov2 l1 l2 l3 l4
            rw [hpick2] at hnext hbad
            clear hpick2
            generalize t.kids[j] = x at *
            generalize k.kids[j] = y at *
            generalize k.kids[0] = y0 at *
            have k0 := RKw.cell 0
            have k2 := RKw.cell 2
            go_wp2_with fail
            have hb2 : Below wr.heap.size wr ((wr.alloc (.cells #[.int .i64 x.sort, .int .i64 x.num, .string x.text, .slice D1 x.names.length e1, .slice D2 x.kids.length e2] 26)).alloc (.cells #[.int .i64 y.sort, .slice E1 y.names.length n1, .slice E2 y.kids.length n2] 47)) := ((Below.refl wr.heap.size wr).alloc (Nat.le_refl _) _).alloc (by simp) _
            refine (HC.out y _ _ _ _ (lv + 1) (lw + 1) _ (HOK.out.below hb2 HFK.out) (HOT.out.below hb2 HFT.out) (HFK.out.mono hb2.size) (HFT.out.mono hb2.size) hkb1 htb1 HKG.out HTG.out).mono ?_
            rintro e w3 ⟨rfl, hb3⟩
            have hb4 := hb2.trans (hb3.mono hb2.size)
            have hbz := hide (HB.out.trans (hb4.mono HB.out.size))
            have RK3 := RKw.below hb4 lk
            by_cases hx : x.of y
            · rw [tb_true hx]
              have HX := hide (hnext.out hx)
              clear hx
              go_wp2
              go_roundw
              case rel => exact ⟨⟨j + 1, by omega, by go_num, HX.out⟩, hbz.out, RK3⟩
              case measure => simp [intOf]; omega
            · rw [tb_false hx]
              have HX := hide (hbad.out hx)
              clear hx
              go_wp2
              go_ret
              exact ⟨ret_bool HX.out.symm, hbz.out⟩
          · obtain rfl : j = t.kids.length := by omega
            have HT := hide (tb_true (p := t.of k) (hof.out.2 ⟨HS.out, HE.out, fun a h => HA2.out a h h⟩))
            go_wp2
            go_ret
            exact ⟨ret_bool HT.out.symm, HB.out⟩
      · rw [tb_false hn]
        have HT := hide (tb_false (p := t.of k) (fun h => hn (hof.out.1 h).2.1))
        clear hn
        go_wp2
        go_ret
        exact ⟨ret_bool HT.out.symm, HB2.out⟩
    · have b5 : (k.sort == 5) = false := by simp [h5]
      have HE : Hid (k.names = t.names) := by
        have h1 := hsk.out
        have h2 := hst.out
        unfold Tree.shape at h2
        rw [List.eq_nil_of_length_eq_zero (l := k.names) (by omega), List.eq_nil_of_length_eq_zero (l := t.names) (by omega)]
        exact hide rfl
      have HB2 := hB1
      have RK2 := RK
      have RT2 := RT
      clear RK RT lk1 lt1
      have m0 := RT2.cell 4
      have m1 := RT2.lt
      clear hs h5
      go_enter Try.func119, Try.ntmps119
      go_wp2
      go_loopw [29] (fun i wr => (∃ j : Nat, j ≤ t.kids.length ∧ i = .int .i64 j ∧ ∀ a (h : a < t.kids.length), a < j → t.kids[a].of (k.pick a)) ∧ Below w.heap.size w wr ∧ Row wr w.heap.size 47 [.int .i64 k.sort, .slice A1 k.names.length c1, .slice A2 k.kids.length c2]) (fun i _ => t.kids.length - (intOf i).toNat)
      case atStart => exact ⟨⟨0, Nat.zero_le _, rfl, fun a h1 h => absurd h (by omega)⟩, HB2.out, RK2⟩
      case round =>
        obtain ⟨⟨j, hj, rfl, ha⟩, hbw, RKw⟩ := hrel
        have HA2 := hide ha
        have HB := hide hbw
        have lk := RKw.lt
        clear ha hbw m0 m1 RT2 RK2
        by_cases hlt : j < t.kids.length
        · have hnl : k.names.length = t.names.length := by rw [HE.out]
          obtain ⟨hpos, hpl, hpick⟩ := Kind.pick_at HGK.out ((Tree.good_iff _ _).1 HGT.out).2.1 HS.out hnl hlt
          clear hnl
          obtain ⟨g, off, ws, fi, rfl, hgm, hfi, hwl, hcs, hov⟩ := (X2.out.below HB.out hg.right).elem Tree.cells_len hlt
          obtain ⟨g', off', ws', fi', rfl, hgm', hfi', hwl', hcs', hov'⟩ := (O2.out.below HB.out hf.right).elem Kind.cells_len hpos
          have HOT := hide hov
          have HFT := hide (((hg.right).up HB.out).sub hfi)
          have hgl := hg.right _ hgm
          have hgl' := hf.right _ hgm'
          have hgw := Nat.lt_of_lt_of_le hgl HB.out.size
          have hgw' := Nat.lt_of_lt_of_le hgl' HB.out.size
          have HC := hide (HI.out _ (List.getElem_mem hlt))
          have HTG := hide (Tree.kid_good HGT.out hlt)
          have htb1 := Nat.le_trans (Tree.kid_bulk hlt) hbt
          obtain ⟨D1, e1, D2, e2, r1, r2, rfl, y0, y1, y2, z1, z2, rfl⟩ := hov.oTree
          have p0 := hcs 0 _ rfl
          have p1 := hcs 1 _ rfl
          have p2 := hcs 2 _ rfl
          have p3 := hcs 3 _ rfl
          have p4 := hcs 4 _ rfl
          simp only [Nat.add_zero] at p0
          have hnext := hide (fun (h : t.kids[j].of (k.pick j)) (a : Nat) (ha : a < t.kids.length) (hl : a < j + 1) => show t.kids[a].of (k.pick a) from by
            by_cases e : a < j
            · exact HA2.out a ha e
            · obtain rfl : a = j := by omega
              exact h)
          have hbad := hide (fun (h : ¬ t.kids[j].of (k.pick j)) => tb_false (p := t.of k) (fun ht => h ((hof.out.1 ht).2.2 j hlt)))
          clear hcs hov z1 z2 hfi
          have hpick2 : k.pick j = k.kids[0]'hpos := by rw [hpick]; simp [show k.sort ≠ 5 by simpa using b5]
          clear hpick hpl
          have HOK := hide hov'
          have HFK := hide (((hf.right).up HB.out).sub hfi')
          have HKG := hide (Kind.kid_good HGK.out hpos)
          have hkb1 := Nat.le_trans (Kind.kid_bulk hpos) hbk
          obtain ⟨C1, m1, C2, m2, s1, s2, rfl, n0, l1, l2, rfl⟩ := hov'.oKind
          have i0 := hcs' 0 _ rfl
          have i1 := hcs' 1 _ rfl
          have i2 := hcs' 2 _ rfl
          simp only [Nat.zero_mul, Nat.add_zero] at i0 i1 i2
          clear hcs' hov' l1 l2
          rw [hpick2] at hnext hbad
          clear hpick2
          generalize t.kids[j] = x at *
          generalize k.kids[0] = y at *
          have k0 := RKw.cell 0
          have k2 := RKw.cell 2
          go_wp2_with fail
          have hb2 : Below wr.heap.size wr ((wr.alloc (.cells #[.int .i64 x.sort, .int .i64 x.num, .string x.text, .slice D1 x.names.length e1, .slice D2 x.kids.length e2] 26)).alloc (.cells #[.int .i64 y.sort, .slice C1 y.names.length m1, .slice C2 y.kids.length m2] 47)) := ((Below.refl wr.heap.size wr).alloc (Nat.le_refl _) _).alloc (by simp) _
          refine (HC.out y _ _ _ _ (lv + 1) (lw + 1) _ (HOK.out.below hb2 HFK.out) (HOT.out.below hb2 HFT.out) (HFK.out.mono hb2.size) (HFT.out.mono hb2.size) hkb1 htb1 HKG.out HTG.out).mono ?_
          rintro e w3 ⟨rfl, hb3⟩
          have hb4 := hb2.trans (hb3.mono hb2.size)
          have hbz := hide (HB.out.trans (hb4.mono HB.out.size))
          have RK3 := RKw.below hb4 lk
          by_cases hx : x.of y
          · rw [tb_true hx]
            have HX := hide (hnext.out hx)
            clear hx
            go_wp2
            go_roundw
            case rel => exact ⟨⟨j + 1, by omega, by go_num, HX.out⟩, hbz.out, RK3⟩
            case measure => simp [intOf]; omega
          · rw [tb_false hx]
            have HX := hide (hbad.out hx)
            clear hx
            go_wp2
            go_ret
            exact ⟨ret_bool HX.out.symm, hbz.out⟩
        · obtain rfl : j = t.kids.length := by omega
          have HT := hide (tb_true (p := t.of k) (hof.out.2 ⟨HS.out, HE.out, fun a h => HA2.out a h h⟩))
          go_wp2
          go_ret
          exact ⟨ret_bool HT.out.symm, HB.out⟩
  · have hb0 : (k.sort != t.sort) = true := by simp [hs]
    have HT := hide (tb_false (p := t.of k) (fun h => hs (hof.out.1 h).1))
    clear hs
    go_enter Try.func119, Try.ntmps119
    go_wp2
    go_ret
    exact ⟨ret_bool HT.out.symm, hB1.out⟩
theorem hasI_any (t : Tree) : HasI t := Tree.ind hasI_of t
end Go.Proofs.Ytbjblchhenmgjaa
set_option linter.unusedVariables false
set_option linter.unusedSimpArgs false
namespace Go.Proofs.Ytbjblchhenmgjaa
open Go.ChangeShapes Go.WideShapes Go.ChangeAt Go.RowKit

set_option maxRecDepth 100000 in
theorem implKindHas_any (k : Kind) (us : List Value) (fp : List Nat) (t : Tree) (vs : List Value) (fq : List Nat) (w : World) (hk : OwC w k.cells us fp) (hf : Lt fp w.heap.size) (hbk : k.bulk ≤ 1048576) (ht : OwC w t.cells vs fq) (hg : Lt fq w.heap.size) (hbt : t.bulk ≤ 1048576) :
    Calls Try.prog 48 #[.agg us.toArray, .agg vs.toArray] w fun e w' => e = .returned (.bool (tb (k.ok ∧ t.ok ∧ t.of k))) ∧ Below w.heap.size w w' := by
  have HK := hide hk
  have HT := hide ht
  obtain ⟨A1, c1, A2, c2, f1, f2, rfl, w0, o1, o2, rfl⟩ := hk.oKind
  obtain ⟨B1, d1, B2, d2, q1, q2, rfl, v0, v1, v2, x1, x2, rfl⟩ := ht.oTree
  clear hk ht o1 o2 x1 x2
  have hw1 : Below w.heap.size w ((w.alloc (.cells #[.int .i64 k.sort, .slice A1 k.names.length c1, .slice A2 k.kids.length c2] 47)).alloc (.cells #[.int .i64 t.sort, .int .i64 t.num, .string t.text, .slice B1 t.names.length d1, .slice B2 t.kids.length d2] 26)) := ((Below.refl w.heap.size w).alloc (Nat.le_refl _) _).alloc (by simp) _
  have RK : Row ((w.alloc (.cells #[.int .i64 k.sort, .slice A1 k.names.length c1, .slice A2 k.kids.length c2] 47)).alloc (.cells #[.int .i64 t.sort, .int .i64 t.num, .string t.text, .slice B1 t.names.length d1, .slice B2 t.kids.length d2] 26)) w.heap.size 47 [.int .i64 k.sort, .slice A1 k.names.length c1, .slice A2 k.kids.length c2] := (Row.new w _ _).alloc _
  have RT : Row ((w.alloc (.cells #[.int .i64 k.sort, .slice A1 k.names.length c1, .slice A2 k.kids.length c2] 47)).alloc (.cells #[.int .i64 t.sort, .int .i64 t.num, .string t.text, .slice B1 t.names.length d1, .slice B2 t.kids.length d2] 26)) (w.heap.size + 1) 26 [.int .i64 t.sort, .int .i64 t.num, .string t.text, .slice B1 t.names.length d1, .slice B2 t.kids.length d2] := by
    have h := Row.new (w.alloc (.cells #[.int .i64 k.sort, .slice A1 k.names.length c1, .slice A2 k.kids.length c2] 47)) 26 [.int .i64 t.sort, .int .i64 t.num, .string t.text, .slice B1 t.names.length d1, .slice B2 t.kids.length d2]
    rw [World.size_alloc] at h
    exact h
  have B0 := hide hw1
  clear hw1
  go_enter Try.func48, Try.ntmps48
  go_wp2_with fail
  refine (implKindOk_any k _ _ _ (HK.out.below B0.out hf) (hf.up B0.out) hbk).mono ?_
  rintro e w2 ⟨rfl, hb2⟩
  have BB2 := hide (B0.out.trans (hb2.mono B0.out.size))
  have RK2 := RK.below hb2 RK.lt
  have RT2 := RT.below hb2 RT.lt
  clear RK RT hb2
  have lk := RK2.lt
  have lt := RT2.lt
  have t0 := RT2.cell 0
  have t1 := RT2.cell 1
  have t2 := RT2.cell 2
  have t3 := RT2.cell 3
  have t4 := RT2.cell 4
  by_cases hk : k.ok
  · rw [tb_true hk]
    have HK1 := hide hk
    clear hk
    go_wp2_with fail
    refine (implTreeOk_any t _ _ _ (HT.out.below BB2.out hg) (hg.up BB2.out) hbt).mono ?_
    rintro e w3 ⟨rfl, hb3⟩
    have BB3 := hide (BB2.out.trans (hb3.mono BB2.out.size))
    have RK3 := RK2.below hb3 lk
    have RT3 := RT2.below hb3 lt
    clear RK2 RT2 hb3 lk lt t0 t1 t2 t3 t4
    have lk := RK3.lt
    have lt := RT3.lt
    have k0 := RK3.cell 0
    have k1 := RK3.cell 1
    have k2 := RK3.cell 2
    have t0 := RT3.cell 0
    have t1 := RT3.cell 1
    have t2 := RT3.cell 2
    have t3 := RT3.cell 3
    have t4 := RT3.cell 4
    by_cases ht : t.ok
    · rw [tb_true ht]
      have HT1 := hide ht
      have HE := hide (show tb (k.ok ∧ t.ok ∧ t.of k) = tb (t.of k) from congrArg tb (propext ⟨fun h => h.2.2, fun h => ⟨HK1.out, ht, h⟩⟩))
      clear ht
      go_wp2_with fail
      refine (hasI_any t k _ _ _ _ 1 1 _ (HK.out.below BB3.out hf) (HT.out.below BB3.out hg) (hf.up BB3.out) (hg.up BB3.out) hbk hbt HK1.out.1 HT1.out.1).mono ?_
      rintro e w4 ⟨rfl, hb4⟩
      go_wp2
      go_ret
      exact ⟨ret_bool HE.out.symm, BB3.out.trans (hb4.mono BB3.out.size)⟩
    · rw [tb_false ht]
      have HE := hide (tb_false (p := k.ok ∧ t.ok ∧ t.of k) (fun h => ht h.2.1))
      clear ht
      go_wp2
      go_ret
      exact ⟨ret_bool HE.out.symm, BB3.out⟩
  · rw [tb_false hk]
    have HE := hide (tb_false (p := k.ok ∧ t.ok ∧ t.of k) (fun h => hk h.1))
    clear hk
    go_wp2
    go_ret
    exact ⟨ret_bool HE.out.symm, BB2.out⟩

end Go.Proofs.Ytbjblchhenmgjaa
set_option linter.unusedVariables false
set_option linter.unusedSimpArgs false
namespace Go.Proofs.Ytbjblchhenmgjaa
open Go.ChangeShapes Go.WideShapes Go.ChangeAt Go.RowKit

def TtTree (x : Tree) : Prop := ∀ (us vs : List Value) (fp fq : List Nat) (w : World), OwC w x.cells us fp → OwC w x.cells vs fq → Lt fp w.heap.size → Lt fq w.heap.size →
  Calls Try.prog 47 #[.agg us.toArray, .agg vs.toArray] w fun e w' => e = .returned (.bool true) ∧ Below w.heap.size w w'
set_option maxRecDepth 100000 in
set_option maxHeartbeats 1000000 in
theorem ttTree_of (x : Tree) (ih : ∀ y ∈ x.kids, TtTree y) : TtTree x := by
  intro us vs fp fq w ho ho' hf hf'
  obtain ⟨A1, c1, A2, c2, f1, f2, rfl, w0, w1, w2, o1, o2, rfl⟩ := ho.oTree
  obtain ⟨bA1, bc1, bA2, bc2, bf1, bf2, rfl, bw0, bw1, bw2, bo1, bo2, rfl⟩ := ho'.oTree
  have l1 := hf.left
  have l2 := hf.right
  have k1 := hf'.left
  have k2 := hf'.right
  have HI := hide ih
  obtain ⟨-, hn1, hm1⟩ := o1.nlen
  obtain ⟨-, hn2, hm2⟩ := o2.nlen
  unfold maxLen at hm1 hm2
  have O1 := hide o1
  have O2 := hide o2
  have P1 := hide bo1
  have P2 := hide bo2
  clear ho ho' ih o1 o2 bo1 bo2 w0 w1 w2 bw0 bw1 bw2
  go_enter Try.func47, Try.ntmps47
  go_upto_region 1 with fail
  generalize hw1 : World.alloc _ _ = w1
  have hb0 : Below w.heap.size w w1 := by rw [← hw1]; exact ((Below.refl _ _).alloc (Nat.le_refl _) _).alloc (by simp) _
  have R0 : Row w1 w.heap.size 26 [.int .i64 x.sort, .int .i64 x.num, .string x.text, .slice A1 x.names.length c1, .slice A2 x.kids.length c2] := by rw [← hw1]; exact (Row.new w _ _).alloc _
  have S0 : Row w1 (w.heap.size + 1) 26 [.int .i64 x.sort, .int .i64 x.num, .string x.text, .slice bA1 x.names.length bc1, .slice bA2 x.kids.length bc2] := by
    rw [← hw1]
    have h := Row.new (w.alloc (.cells #[.int .i64 x.sort, .int .i64 x.num, .string x.text, .slice A1 x.names.length c1, .slice A2 x.kids.length c2] 26)) 26 [.int .i64 x.sort, .int .i64 x.num, .string x.text, .slice bA1 x.names.length bc1, .slice bA2 x.kids.length bc2]
    simpa using h
  have O1 := hide (O1.out.below hb0 l1)
  have O2 := hide (O2.out.below hb0 l2)
  have P1 := hide (P1.out.below hb0 k1)
  have P2 := hide (P2.out.below hb0 k2)
  have l1 := hide (l1.up hb0)
  have l2 := hide (l2.up hb0)
  have k1 := hide (k1.up hb0)
  have k2 := hide (k2.up hb0)
  have c0 := R0.cell 0
  have c1_ := R0.cell 1
  have c2_ := R0.cell 2
  have c3 := R0.cell 3
  have c4 := R0.cell 4
  have d0 := S0.cell 0
  have d1 := S0.cell 1
  have d2 := S0.cell 2
  have d3 := S0.cell 3
  have d4 := S0.cell 4
  have lr0 := R0.lt
  have ls0 := S0.lt
  have HR0 := hide R0
  have HS0 := hide S0
  have HB0 := hide hb0
  clear hw1 hb0 R0 S0
  go_wp2
  clear c0 c1_ c2_ c3 c4 d0 d1 d2 d3 d4
  go_loopw [5] (fun i wr => (∃ k : Nat, k ≤ x.names.length ∧ i = .int .i64 (k : Int)) ∧ Below w1.heap.size w1 wr) (fun i _ => x.names.length - (intOf i).toNat)
  case atStart => exact ⟨⟨0, Nat.zero_le _, rfl⟩, Below.refl _ _⟩
  case round =>
    obtain ⟨⟨k, hk, rfl⟩, hb⟩ := hrel
    have c3 := (HR0.out.below hb lr0).cell 3
    have d3 := (HS0.out.below hb ls0).cell 3
    have hsz := hb.size
    by_cases hlt : k < x.names.length
    · obtain ⟨g, off, rfl, _, hcell, hs⟩ := strs_at (O1.out.below hb l1.out) hlt
      obtain ⟨g', off', rfl, _, hcell', _⟩ := strs_at (P1.out.below hb k1.out) hlt
      have HB := hide hb
      clear hb
      generalize x.names[k] = s at *
      go_wp2
      go_quiet (fail)
      go_wp2
      go_roundw
      case rel => exact ⟨⟨k + 1, by omega, by go_num⟩, below_drewN HB.out _⟩
      case measure => simp [intOf]; omega
    · obtain rfl : k = x.names.length := by omega
      have HB := hide hb
      clear hb
      go_wp2
      go_loopw [6] (fun i wx => (∃ k : Nat, k ≤ x.kids.length ∧ i = .int .i64 (k : Int)) ∧ Below w1.heap.size w1 wx) (fun i _ => x.kids.length - (intOf i).toNat)
      case atStart => exact ⟨⟨0, Nat.zero_le _, rfl⟩, HB.out⟩
      case round =>
        obtain ⟨⟨k, hk2, rfl⟩, hb⟩ := hrel
        have c4 := (HR0.out.below hb lr0).cell 4
        have d4 := (HS0.out.below hb ls0).cell 4
        have hsz2 := hb.size
        obtain ⟨wz, rfl⟩ : ∃ W, W = wr := ⟨_, rfl⟩
        have HBx := hide hb
        by_cases hlt2 : k < x.kids.length
        · obtain ⟨g, off, vs, fi, rfl, hg, hfi, hvl, hcs, hov⟩ := (O2.out.below hb l2.out).elem Tree.cells_len hlt2
          obtain ⟨g', off', vs', fi', rfl, hg', hfi', hvl', hcs', hov'⟩ := (P2.out.below hb k2.out).elem Tree.cells_len hlt2
          have HO := hide hov
          have HO' := hide hov'
          obtain ⟨E1, e1, E2, e2, g1, g2, rfl, y0, y1, y2, z1, z2, rfl⟩ := hov.oTree
          obtain ⟨F1, r1, F2, r2, h1, h2, rfl, by0, by1, by2, bz1, bz2, rfl⟩ := hov'.oTree
          have p0 := hcs 0 _ rfl
          have q0 := hcs' 0 _ rfl
          have p1 := hcs 1 _ rfl
          have q1 := hcs' 1 _ rfl
          have p2 := hcs 2 _ rfl
          have q2 := hcs' 2 _ rfl
          have p3 := hcs 3 _ rfl
          have q3 := hcs' 3 _ rfl
          have p4 := hcs 4 _ rfl
          have q4 := hcs' 4 _ rfl
          simp only [Nat.add_zero] at p0 q0
          have HC := hide (HI.out _ (List.getElem_mem hlt2))
          have HL := hide ((l2.out.sub hfi).mono hb.size)
          have HK := hide ((k2.out.sub hfi').mono hb.size)
          clear hcs hcs' hov hov' hb hfi hfi' z1 z2 bz1 bz2 y0 y1 y2 by0 by1 by2
          generalize x.kids[k] = y at *
          go_wp2_with fail
          go_still_tail 10, (by kernel_rfl)
          change wpList _ _ _ _ _ wz.drew
          go_wp2_with fail
          refine (HC.out _ _ _ _ _ (HO.out.drewN 1) (HO'.out.drewN 1) HL.out HK.out).mono ?_
          rintro e w3 ⟨rfl, hb1⟩
          have hb2 : Below w1.heap.size w1 w3 := (below_drewN HBx.out 1).trans (hb1.mono hsz2)
          clear hb1
          go_wp2
          go_roundw
          case rel => exact ⟨⟨k + 1, by omega, by go_num⟩, hb2⟩
          case measure => simp [intOf]; omega
        · obtain rfl : k = x.kids.length := by omega
          clear hb
          go_wp2
          go_ret
          exact ⟨rfl, HB0.out.trans (HBx.out.mono HB0.out.size)⟩
theorem ttTree_any (x : Tree) : TtTree x := Tree.ind (fun k ih => ttTree_of k ih) x
end Go.Proofs.Ytbjblchhenmgjaa
set_option linter.unusedVariables false
set_option linter.unusedSimpArgs false
namespace Go.Proofs.Ytbjblchhenmgjaa
open Go.ChangeShapes Go.WideShapes Go.ChangeAt Go.RowKit

set_option maxRecDepth 100000 in
set_option maxHeartbeats 2000000 in
theorem lawFnKindFirst_any (w : World) (x0 : List UInt8) (A0 : Option Addr) (m0 c0 : Nat) (fp0 : List Nat) (ho0 : Ow w (.s 1 (x0).length ((x0).flatMap byteC)) (.slice A0 m0 c0) fp0) (hl0 : Lt fp0 w.heap.size) :
    Calls Try.prog 8 #[.slice A0 m0 c0] w fun e w' => e = .returned (.bool true) ∧ Below w.heap.size w w' := by
  obtain ⟨rfl, hc0, hm0⟩ := ho0.nlen
  have HO0 := hide ho0
  have HB := hide (Below.refl w.heap.size w)
  clear ho0
  by_cases hz0 : (x0.length : Int) ≤ 1048576
  rotate_left
  · have hz' : (1048576 : Int) < x0.length := by omega
    go_enter Try.func8, Try.ntmps8
    go_wp2
    go_ret
    exact ⟨rfl, HB.out⟩
  have HD := hide (drawKindFirst_any x0 A0 _ c0 fp0 w HO0.out hl0 (by omega))
  go_enter Try.func8, Try.ntmps8
  go_wp2_with fail
  refine HD.out.mono ?_
  rintro e w1 ⟨k, us, fq, rfl, ho1, hn1, hbk, hb1⟩
  have hbk2 : k.bulk ≤ 1048576 := by omega
  have HO1 := hide ho1
  have HL1 := hide hn1.lt
  have HB1 := hide hb1
  obtain ⟨A1, ac1, A2, ac2, f1, f2, rfl, -, -, -, -⟩ := ho1.oKind
  clear ho1 hn1 hb1 HD HO0
  go_upto_region 4 with fail
  generalize hw2 : World.alloc _ _ = w2
  have hbA : Below w1.heap.size w1 w2 := by rw [← hw2]; exact (Below.refl _ _).alloc (Nat.le_refl _) _
  have HX2 := hide (show Row w2 w1.heap.size 47 [.int .i64 k.sort, .slice A1 k.names.length ac1, .slice A2 k.kids.length ac2] from by rw [← hw2]; exact Row.new w1 _ _)
  have HO2 := hide (HO1.out.below hbA HL1.out)
  have HL2 := hide (HL1.out.up hbA)
  have HB2 := hide (HB1.out.trans (hbA.mono HB1.out.size))
  clear hw2 hbA HO1 HL1 HB1
  have k0 := HX2.out.cell 0
  have k1 := HX2.out.cell 1
  have k2 := HX2.out.cell 2
  have lk := HX2.out.lt
  have HC := hide (specKindFirst_any k _ fq w2 HO2.out HL2.out hbk2)
  go_wp2_with fail
  refine HC.out.mono ?_
  rintro e w3 ⟨vs, gq, rfl, ho3, hn3, hb3⟩
  have HT3 := hide ho3
  have HTL3 := hide hn3.lt
  have HX3 := hide (HX2.out.below hb3 HX2.out.lt)
  have HO3 := hide (HO2.out.below hb3 HL2.out)
  have HL3 := hide (HL2.out.up hb3)
  have HB3 := hide (HB2.out.trans (hb3.mono HB2.out.size))
  obtain ⟨t0, ht0⟩ : ∃ t, t = k.firstOf := ⟨_, rfl⟩
  rw [← ht0] at ho3
  have HT3 := hide ho3
  obtain ⟨B1, bc1, B2, bc2, g1, g2, rfl, -, -, -, -, -, -⟩ := ho3.oTree
  have HTE := hide ht0
  clear ho3 hn3 hb3 ht0 HX2 HO2 HL2 HB2 HC k0 k1 k2 lk
  go_upto_region 5 with fail
  generalize hw4 : World.alloc _ _ = w4
  have hbA : Below w3.heap.size w3 w4 := by rw [← hw4]; exact (Below.refl _ _).alloc (Nat.le_refl _) _
  have HY4 := hide (show Row w4 w3.heap.size 26 [.int .i64 t0.sort, .int .i64 t0.num, .string t0.text, .slice B1 t0.names.length bc1, .slice B2 t0.kids.length bc2] from by rw [← hw4]; exact Row.new w3 _ _)
  have HX4 := hide (HX3.out.below hbA HX3.out.lt)
  have HO4 := hide (HO3.out.below hbA HL3.out)
  have HL4 := hide (HL3.out.up hbA)
  have HT4 := hide (HT3.out.below hbA HTL3.out)
  have HTL4 := hide (HTL3.out.up hbA)
  have HB4 := hide (HB3.out.trans (hbA.mono HB3.out.size))
  clear hw4 hbA HX3 HO3 HL3 HT3 HTL3 HB3
  have k0 := HX4.out.cell 0
  have k1 := HX4.out.cell 1
  have k2 := HX4.out.cell 2
  have lk := HX4.out.lt
  have HC := hide (specKindOk_any k _ fq w4 HO4.out HL4.out hbk2)
  go_wp2_with fail
  refine HC.out.mono ?_
  rintro e w5 ⟨rfl, hb5⟩
  have HY5 := hide (HY4.out.below hb5 HY4.out.lt)
  have HX5 := hide (HX4.out.below hb5 HX4.out.lt)
  have HO5 := hide (HO4.out.below hb5 HL4.out)
  have HL5 := hide (HL4.out.up hb5)
  have HT5 := hide (HT4.out.below hb5 HTL4.out)
  have HTL5 := hide (HTL4.out.up hb5)
  have HB5 := hide (HB4.out.trans (hb5.mono HB4.out.size))
  clear hb5 HY4 HX4 HO4 HL4 HT4 HTL4 HB4 HC k0 k1 k2 lk
  have k0 := HX5.out.cell 0
  have k1 := HX5.out.cell 1
  have k2 := HX5.out.cell 2
  have lk := HX5.out.lt
  have HC := hide (implKindFirst_any k _ fq w5 HO5.out HL5.out hbk2)
  go_wp2_with fail
  refine HC.out.mono ?_
  rintro e w6 ⟨ws, hq, rfl, ho6, hn6, hb6⟩
  rw [← HTE.out] at ho6
  have HU6 := hide ho6
  have HUL6 := hide hn6.lt
  have HY6 := hide (HY5.out.below hb6 HY5.out.lt)
  have HX6 := hide (HX5.out.below hb6 HX5.out.lt)
  have HO6 := hide (HO5.out.below hb6 HL5.out)
  have HL6 := hide (HL5.out.up hb6)
  have HT6 := hide (HT5.out.below hb6 HTL5.out)
  have HTL6 := hide (HTL5.out.up hb6)
  have HB6 := hide (HB5.out.trans (hb6.mono HB5.out.size))
  obtain ⟨E1, ec1, E2, ec2, h1, h2, rfl, -, -, -, -, -, -⟩ := ho6.oTree
  clear ho6 hn6 hb6 HY5 HX5 HO5 HL5 HT5 HTL5 HB5 HC k0 k1 k2 lk
  go_upto_region 7 with fail
  generalize hw7 : World.alloc _ _ = w7
  have hbA : Below w6.heap.size w6 w7 := by rw [← hw7]; exact (Below.refl _ _).alloc (Nat.le_refl _) _
  have HZ7 := hide (show Row w7 w6.heap.size 26 [.int .i64 t0.sort, .int .i64 t0.num, .string t0.text, .slice E1 t0.names.length ec1, .slice E2 t0.kids.length ec2] from by rw [← hw7]; exact Row.new w6 _ _)
  have HY7 := hide (HY6.out.below hbA HY6.out.lt)
  have HX7 := hide (HX6.out.below hbA HX6.out.lt)
  have HO7 := hide (HO6.out.below hbA HL6.out)
  have HL7 := hide (HL6.out.up hbA)
  have HT7 := hide (HT6.out.below hbA HTL6.out)
  have HTL7 := hide (HTL6.out.up hbA)
  have HU7 := hide (HU6.out.below hbA HUL6.out)
  have HUL7 := hide (HUL6.out.up hbA)
  have HB7 := hide (HB6.out.trans (hbA.mono HB6.out.size))
  clear hw7 hbA HY6 HX6 HO6 HL6 HT6 HTL6 HU6 HUL6 HB6
  have y0 := HY7.out.cell 0
  have y1 := HY7.out.cell 1
  have y2 := HY7.out.cell 2
  have y3 := HY7.out.cell 3
  have y4 := HY7.out.cell 4
  have ly := HY7.out.lt
  have z0 := HZ7.out.cell 0
  have z1 := HZ7.out.cell 1
  have z2 := HZ7.out.cell 2
  have z3 := HZ7.out.cell 3
  have z4 := HZ7.out.cell 4
  have lz := HZ7.out.lt
  have HC := hide (ttTree_any t0 _ _ _ _ w7 HU7.out HT7.out HUL7.out HTL7.out)
  go_wp2_with fail
  refine HC.out.mono ?_
  rintro e w8 ⟨rfl, hb8⟩
  have HZ8 := hide (HZ7.out.below hb8 HZ7.out.lt)
  have HX8 := hide (HX7.out.below hb8 HX7.out.lt)
  have HO8 := hide (HO7.out.below hb8 HL7.out)
  have HL8 := hide (HL7.out.up hb8)
  have HU8 := hide (HU7.out.below hb8 HUL7.out)
  have HUL8 := hide (HUL7.out.up hb8)
  have HB8 := hide (HB7.out.trans (hb8.mono HB7.out.size))
  clear hb8 HZ7 HY7 HX7 HO7 HL7 HT7 HTL7 HU7 HUL7 HB7 HC y0 y1 y2 y3 y4 ly z0 z1 z2 z3 z4 lz
  have z0 := HZ8.out.cell 0
  have lz := HZ8.out.lt
  by_cases hok : k.ok
  rotate_left
  · have hs0 : t0.sort = 0 := by
      rw [HTE.out]
      unfold Kind.firstOf
      rw [if_neg (by rw [tb_false hok]; simp)]
      rfl
    rw [tb_false hok]
    rw [hs0] at z0
    go_wp2
    go_ret
    exact ⟨rfl, HB8.out⟩
  rw [tb_true hok]
  have z1 := HZ8.out.cell 1
  have z2 := HZ8.out.cell 2
  have z3 := HZ8.out.cell 3
  have z4 := HZ8.out.cell 4
  have k0 := HX8.out.cell 0
  have k1 := HX8.out.cell 1
  have k2 := HX8.out.cell 2
  have lk := HX8.out.lt
  have hfo := first_ok hok
  have hbt : t0.bulk ≤ 1048576 := by rw [HTE.out]; have := k.firstOf_bulk; omega
  have HOK := hide (show k.ok ∧ t0.ok ∧ t0.of k ∧ t0.count ≤ 40 from by rw [HTE.out, hfo.1]; exact ⟨hok, hfo.2⟩)
  clear hfo hok
  have HC := hide (implKindHas_any k _ fq t0 _ hq w8 HO8.out HL8.out hbk2 HU8.out HUL8.out hbt)
  go_wp2_with fail
  refine HC.out.mono ?_
  rintro e w9 ⟨rfl, hb9⟩
  rw [tb_true ⟨HOK.out.1, HOK.out.2.1, HOK.out.2.2.1⟩]
  have HZ9 := hide (HZ8.out.below hb9 HZ8.out.lt)
  have HU9 := hide (HU8.out.below hb9 HUL8.out)
  have HUL9 := hide (HUL8.out.up hb9)
  have HB9 := hide (HB8.out.trans (hb9.mono HB8.out.size))
  clear hb9 HZ8 HX8 HO8 HL8 HU8 HUL8 HB8 HC k0 k1 k2 lk z0 z1 z2 z3 z4 lz
  have z0 := HZ9.out.cell 0
  have z1 := HZ9.out.cell 1
  have z2 := HZ9.out.cell 2
  have z3 := HZ9.out.cell 3
  have z4 := HZ9.out.cell 4
  have lz := HZ9.out.lt
  have HC := hide (implTreeParts_any t0 _ hq w9 HU9.out HUL9.out hbt)
  go_wp2_with fail
  refine HC.out.mono ?_
  rintro e wa ⟨rfl, hba⟩
  have h40 := HOK.out.2.2.2
  go_wp2
  go_ret
  exact ⟨rfl, HB9.out.trans (hba.mono HB9.out.size)⟩
end Go.Proofs.Ytbjblchhenmgjaa
