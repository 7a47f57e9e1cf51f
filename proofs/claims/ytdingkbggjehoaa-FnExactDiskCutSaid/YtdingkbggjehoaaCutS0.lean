/-
  Disks behind a loss of power: the reference's DiskCut. Printed by gen/cuts.py.
-/
import Derived.Test.YtdingkbggjehoaaCutC
import Derived.Test.YtdingkbggjehoaaCutW
import Derived.Deep.RegionHeld3
import Derived.StillTailTactics
set_option linter.unusedVariables false
set_option linter.unusedSimpArgs false
namespace Go.Proofs.Ytdingkbggjehoaa
open Go.ChangeShapes Go.WideShapes Go.ChangeAt Go.RowKit

theorem wrap_i64 (x : Int) (h1 : -9223372036854775808 ≤ x) (h2 : x ≤ 9223372036854775807) : IntKind.i64.wrap x = x := by
  rw [IntKind.wrap_i64]
  omega
theorem stKeep {w : World} {a b c : Nat} {e f : TypeId} {x0 x1 x2 y0 y1 y2 u0 u1 u2 : Value} (hx : Row w a e [x0, x1, x2]) (hy : Row w b f [y0, y1, y2]) (hac : a ≠ c) (hbc : b ≠ c) :
    let W := ((w.setCell ⟨c, 0, none⟩ u0).setCell ⟨c, 1, none⟩ u1).setCell ⟨c, 2, none⟩ u2
    W.cell? ⟨a, 0, none⟩ = some x0 ∧ W.cell? ⟨a, 1, none⟩ = some x1 ∧ W.cell? ⟨a, 2, none⟩ = some x2 ∧ W.cell? ⟨b, 0, none⟩ = some y0 ∧ W.cell? ⟨b, 1, none⟩ = some y1 ∧ W.cell? ⟨b, 2, none⟩ = some y2 := by
  have h1 := ((hx.far (p := ⟨c, 0, none⟩) hac u0).far (p := ⟨c, 1, none⟩) hac u1).far (p := ⟨c, 2, none⟩) hac u2
  have h2 := ((hy.far (p := ⟨c, 0, none⟩) hbc u0).far (p := ⟨c, 1, none⟩) hbc u1).far (p := ⟨c, 2, none⟩) hbc u2
  exact ⟨h1.cell 0, h1.cell 1, h1.cell 2, h2.cell 0, h2.cell 1, h2.cell 2⟩
theorem grown_setCell2 {a w : World} {g : Nat} {i j : Nat} (h : a.grownBy w (some g)) (u v : Value) : a.grownBy ((w.setCell ⟨g, i, none⟩ u).setCell ⟨g, j, none⟩ v) (some g) :=
  only_setCell (only_setCell h (.inl rfl) u) (.inl rfl) v
theorem OwS.formAt {α : Type} {w : World} {B : Nat} {e : TypeId} {k : Nat} {f : α → List D} {A : Option Addr} {n c : Nat} {l : List α} {us : List Value} {fi : List Nat} (h : OwS w B e k f (.slice A n c) l us fi) (hn : 0 < n) : ∃ g, A = some ⟨g, 0, none⟩ ∧ n = l.length ∧ n ≤ c ∧ B ≤ g ∧ ∃ cs, Row w g e cs ∧ l.length * k ≤ cs.length := by
  rcases h.own.2 with ⟨e1, e2⟩ | ⟨g, cap, cur, hv, hB, hg, h1, h2, h3, h4⟩
  · injection e1 with _ e1 _; omega
  · injection hv with hv1 hv2 hv3
    subst hv1 hv2 hv3
    exact ⟨g, rfl, rfl, h1, hB, cur.toList, by simpa [Row] using hg, Nat.le_trans (Nat.mul_le_mul_right _ h1) (by rw [← h3]; exact Nat.le_of_eq (Array.length_toList (xs := cur)).symm)⟩
theorem setAt2 {w : World} {B g c : Nat} {e : TypeId} {l : List DiskFile} {us : List Value} (h : OwS w B e 3 DiskFile.cells (.slice (some ⟨g, 0, none⟩) l.length c) l us []) {i : Nat} (hi : i < l.length) (x : DiskFile) (hn : x.name = l[i].name) (hs : x.data.size ≤ maxLen) (hw : (Lit.int .i64 x.kept).wf = true) :
    ∃ us', OwS ((w.setCell ⟨g, i * 3 + 1, none⟩ (.string x.data)).setCell ⟨g, i * 3 + 2, none⟩ (.int .i64 x.kept)) B e 3 DiskFile.cells (.slice (some ⟨g, 0, none⟩) l.length c) (l.set i x) us' [] := by
  have h1 := h.setAt DiskFile.cells_len hi (⟨l[i].name, x.data, l[i].kept⟩ : DiskFile) 1 (by decide) (.string l[i].data) (.string x.data) rfl rfl hs
  have h2 := h1.setAt DiskFile.cells_len (i := i) (by rw [List.length_set]; exact hi) x 2 (by decide) (.int .i64 l[i].kept) (.int .i64 x.kept) (by simp [DiskFile.cells]) (by rw [List.getElem_set_self]; simp [DiskFile.cells, hn]) hw
  rw [List.set_set, List.length_set] at h2
  exact ⟨_, h2⟩
theorem triOw {w : World} {B : Nat} {d : Disk} {l : List DiskFile} {v1 v2 v3 : Value} {us1 us2 us3 : List Value} (h1 : OwS w B 143 3 DiskFile.cells v1 l us1 []) (h2 : OwS w B 9 1 strC v2 d.names us2 []) (h3 : OwS w B 147 2 DiskMove.cells v3 d.moves us3 []) : ∃ fp, OwC w (Disk.mk l d.names d.moves).cells [v1, v2, v3] fp ∧ Lt fp w.heap.size := by
  obtain ⟨p1, o1, n1, _⟩ := h1.toOw'
  obtain ⟨p2, o2, n2, _⟩ := h2.toOw'
  obtain ⟨p3, o3, n3, _⟩ := h3.toOw'
  exact ⟨_, OwC.mDisk (x := Disk.mk l d.names d.moves) o1 o2 o3, n1.lt.app (n2.lt.app n3.lt)⟩
end Go.Proofs.Ytdingkbggjehoaa
