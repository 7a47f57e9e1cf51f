/-
  Disks behind a loss of power: what is left of them; plain definitions.
-/
import Derived.Test.YtdingkbggjehoaaDiskOkI
set_option linter.unusedVariables false
set_option linter.unusedSimpArgs false
namespace Go.Proofs.Ytdingkbggjehoaa
open Go.ChangeShapes Go.WideShapes Go.ChangeAt Go.RowKit

theorem tb_get {p : Prop} (h : tb p = true) : p := Classical.byContradiction (fun k => by rw [tb_false k] at h; cases h)
/-- how many bytes of the unsure ones stay -/
def DiskFile.more (f : DiskFile) (k : Int) : Int := if 0 < k then (if k < (f.data.size : Int) - f.kept then k else (f.data.size : Int) - f.kept) else 0
def DiskFile.leave (f : DiskFile) (k : Int) : DiskFile := ⟨f.name, f.data.extract 0 (f.kept + f.more k).toNat, f.kept + f.more k⟩
theorem DiskFile.more_range {f : DiskFile} (h : f.fine) (k : Int) : 0 ≤ f.more k ∧ 0 ≤ f.kept ∧ f.kept + f.more k ≤ (f.data.size : Int) := by
  obtain ⟨_, _, h1, h2⟩ := h
  unfold DiskFile.more
  split
  · split <;> omega
  · omega
theorem DiskFile.leave_size {f : DiskFile} (h : f.fine) (k : Int) : ((f.leave k).data.size : Int) = (f.leave k).kept := by
  have := f.more_range h k
  unfold DiskFile.leave
  simp only [ByteArray.size_extract]
  omega
def Disk.leaveAll (d : Disk) (keep : List Int) : List DiskFile := d.files.mapIdx (fun i f => f.leave (keep.getD i 0))
theorem Disk.leaveAll_len (d : Disk) (keep : List Int) : (d.leaveAll keep).length = d.files.length := by simp [Disk.leaveAll]
theorem Disk.leaveAll_at (d : Disk) (keep : List Int) (i : Nat) (h : i < (d.leaveAll keep).length) (h' : i < d.files.length) : (d.leaveAll keep)[i] = d.files[i].leave (keep.getD i 0) := by simp [Disk.leaveAll]
theorem FindIs.names {l l' : List DiskFile} {x : ByteArray} {z : Int} (hl : l'.length = l.length) (he : ∀ i (h : i < l.length) (h' : i < l'.length), l'[i].name = l[i].name) (h : FindIs l x z) : FindIs l' x z := by
  rcases h with ⟨k, rfl, ⟨hk, ek⟩, hn⟩ | ⟨rfl, hn⟩
  · exact .inl ⟨k, rfl, ⟨by omega, by rw [he k hk (by omega)]; exact ek⟩, fun j hj hjk => by rw [he j (by omega) hj]; exact hn j (by omega) hjk⟩
  · exact .inr ⟨rfl, fun j hj => by rw [he j (by omega) hj]; exact hn j (by omega)⟩
theorem Disk.leaveAll_find (d : Disk) (keep : List Int) {x : ByteArray} {z : Int} (h : FindIs d.files x z) : FindIs (d.leaveAll keep) x z :=
  h.names (d.leaveAll_len keep) (fun i h h' => by rw [d.leaveAll_at keep i h' h]; rfl)
/-- the first file with a name -/
noncomputable def pickFile (l : List DiskFile) (x : ByteArray) : DiskFile := (l.find? (fun f => tb (f.name = x))).getD ⟨.empty, .empty, 0⟩
theorem pickFile_at {l : List DiskFile} {x : ByteArray} {k : Nat} (h : FindIs l x (k : Int)) : ∃ hk : k < l.length, pickFile l x = l[k] ∧ l[k].name = x := by
  rcases h with ⟨j, e, ⟨hk, ek⟩, hn⟩ | ⟨e, _⟩
  · obtain rfl : k = j := by omega
    refine ⟨hk, ?_, ek⟩
    have hfd : l.find? (fun f => tb (f.name = x)) = some l[k] := by
      rw [List.find?_eq_some_iff_getElem]
      refine ⟨tb_true ek, k, hk, rfl, fun j hj => ?_⟩
      simp [tb_false (hn j (by omega) hj)]
    unfold pickFile
    rw [hfd]
    rfl
  · omega
def clampM (m : Int) (n : Nat) : Nat := if m < 0 then 0 else if m ≤ (n : Int) then m.toNat else n
theorem clampM_le (m : Int) (n : Nat) : clampM m n ≤ n := by unfold clampM; split; omega; split <;> omega
noncomputable def Disk.cutNames (d : Disk) (m : Int) : List ByteArray := d.afterW (clampM m d.moves.length)
noncomputable def Disk.cutOf (d : Disk) (m : Int) (keep : List Int) : Disk :=
  if tb d.ok = true then ⟨(d.cutNames m).map (pickFile (d.leaveAll keep)), d.cutNames m, []⟩ else ⟨[], [], []⟩
theorem Disk.cutOf_yes {d : Disk} (h : tb d.ok = true) (m : Int) (keep : List Int) : d.cutOf m keep = ⟨(d.cutNames m).map (pickFile (d.leaveAll keep)), d.cutNames m, []⟩ := by unfold Disk.cutOf; rw [if_pos h]
theorem Disk.cutOf_no {d : Disk} (h : tb d.ok = false) (m : Int) (keep : List Int) : d.cutOf m keep = ⟨[], [], []⟩ := by unfold Disk.cutOf; rw [if_neg (by rw [h]; simp)]
/-- each name is a file's -/
theorem Disk.cut_found {d : Disk} (h : tb d.ok = true) (m : Nat) (hm : m ≤ d.moves.length) : ∀ x ∈ d.afterW m, ∃ k : Nat, FindIs d.files x (k : Int) := by
  intro x hx
  obtain ⟨j, hj, ej⟩ := (d.ok_after (tb_get h) m hm).2.2 x hx
  obtain ⟨z, hz⟩ := FindIs.ex d.files x
  have hz' := hz
  rcases hz with ⟨k, rfl, _⟩ | ⟨rfl, hn⟩
  · exact ⟨k, hz'⟩
  · exact absurd ej (hn j hj)
theorem map_snoc {α β : Type} (f : α → β) (l : List α) (j : Nat) (h : j < l.length) : (l.take (j + 1)).map f = (l.take j).map f ++ [f l[j]] := by
  rw [List.take_succ_eq_append_getElem h, List.map_append]
  rfl
/-- the files as the reference changes them, one behind the other -/
def mixed (a b : List DiskFile) (j : Nat) : List DiskFile := a.take j ++ b.drop j
theorem mixed_set (a b : List DiskFile) (hl : a.length = b.length) (j : Nat) (h : j < a.length) : (mixed a b j).set j a[j] = mixed a b (j + 1) := by
  unfold mixed
  rw [List.take_succ_eq_append_getElem h, List.drop_eq_getElem_cons (show j < b.length by omega), List.append_assoc]
  rw [List.set_append_right _ _ (by rw [List.length_take]; omega)]
  have e : j - (a.take j).length = 0 := by rw [List.length_take]; omega
  rw [e]
  rfl
theorem mixed_len (a b : List DiskFile) (hl : a.length = b.length) (j : Nat) (h : j ≤ a.length) : (mixed a b j).length = b.length := by
  unfold mixed
  rw [List.length_append, List.length_take, List.length_drop]
  omega
theorem mixed_at (a b : List DiskFile) (hl : a.length = b.length) (j : Nat) (h : j < b.length) (h' : j < (mixed a b j).length) : (mixed a b j)[j] = b[j] := by
  have e : (mixed a b j)[j]? = b[j]? := by
    unfold mixed
    rw [List.getElem?_append_right (by rw [List.length_take]; omega), List.length_take, List.getElem?_drop]
    congr 1
    omega
  rw [List.getElem?_eq_getElem h', List.getElem?_eq_getElem h] at e
  exact Option.some.inj e
theorem mixed_zero (a b : List DiskFile) : mixed a b 0 = b := by simp [mixed]
theorem mixed_all (a b : List DiskFile) (hl : a.length = b.length) : mixed a b b.length = a := by
  unfold mixed
  rw [← hl, List.take_length, hl, List.drop_length, List.append_nil]

/-! ### One cell of an own slice is stored -/
theorem OwC.setV {w w' : World} : ∀ (ds : List D) {us : List Value} {fp : List Nat} (n : Nat) {x u : Value}, OwC w ds us fp → ds[n]? = some (.v x) → okAtom u → (∀ g ∈ fp, w'.heap[g]? = w.heap[g]?) → OwC w' (ds.set n (.v u)) (us.set n u) fp
  | [], _, _, _, _, _, _, hn, _, _ => by simp at hn
  | d :: r, [], _, _, _, _, h, _, _, _ => h.elim
  | d :: r, y :: us, fp, 0, x, u, h, hn, hu, hf => by
    obtain ⟨f1, f2, h1, h2, rfl⟩ := h
    simp only [List.getElem?_cons_zero, Option.some.injEq] at hn
    subst hn
    simp only [Ow] at h1
    obtain ⟨_, _, rfl⟩ := h1
    exact ⟨[], f2, ⟨rfl, hu, rfl⟩, OwC.frame r (fun g hg => hf g (by simpa using hg)) h2, rfl⟩
  | d :: r, y :: us, fp, n + 1, x, u, h, hn, hu, hf => by
    obtain ⟨f1, f2, h1, h2, rfl⟩ := h
    simp only [List.getElem?_cons_succ] at hn
    exact ⟨f1, f2, Ow.frame d (fun g hg => hf g (by simp [hg])) h1, OwC.setV r n h2 hn hu (fun g hg => hf g (by simp [hg])), rfl⟩
theorem flat_set1 {α : Type} (f : α → List D) (k : Nat) (hk : ∀ x, (f x).length = k) : ∀ (l : List α) (i : Nat) (h : i < l.length) (x' : α) (j : Nat) (d : D), j < k → f x' = (f l[i]).set j d →
    (l.set i x').flatMap f = (l.flatMap f).set (i * k + j) d
  | y :: l, 0, _, x', j, d, hj, e => by
    simp only [List.getElem_cons_zero] at e
    simp only [List.set_cons_zero, List.flatMap_cons, e, Nat.zero_mul, Nat.zero_add]
    rw [List.set_append_left _ _ (by rw [hk]; exact hj)]
  | y :: l, i + 1, h, x', j, d, hj, e => by
    have ih := flat_set1 f k hk l i (by simpa using h) x' j d hj (by simpa using e)
    simp only [List.set_cons_succ, List.flatMap_cons]
    rw [List.set_append_right _ _ (by rw [hk, Nat.add_mul]; omega), ih, hk]
    congr 2
    rw [Nat.add_mul]; omega
theorem flat_get1 {α : Type} (f : α → List D) (k : Nat) (hk : ∀ x, (f x).length = k) (l : List α) (i : Nat) (h : i < l.length) (j : Nat) (hj : j < k) : (l.flatMap f)[i * k + j]? = (f l[i])[j]? := by
  obtain ⟨pre, post, e, hp⟩ := flat_get f k hk l i h
  rw [e, ← hp, List.getElem?_append_right (by omega), List.getElem?_append_left (by rw [hk]; omega)]
  congr 1
  omega
/-- one plain cell of an element is stored -/
theorem OwS.setAt {α : Type} {w : World} {B : Nat} {e : TypeId} {k : Nat} {f : α → List D} {g c : Nat} {l : List α} {us : List Value} {fi : List Nat} (h : OwS w B e k f (.slice (some ⟨g, 0, none⟩) l.length c) l us fi) (hk : ∀ x, (f x).length = k)
    {i : Nat} (hi : i < l.length) (x' : α) (j : Nat) (hj : j < k) (x u : Value) (h1 : (f l[i])[j]? = some (.v x)) (h2 : f x' = (f l[i]).set j (.v u)) (hu : okAtom u) :
    OwS (w.setCell ⟨g, i * k + j, none⟩ u) B e k f (.slice (some ⟨g, 0, none⟩) (l.set i x').length c) (l.set i x') (us.set (i * k + j) u) fi := by
  have hgf : g ∉ fi := h.out g rfl
  have hlen := h.cells.length
  rw [flat_len f k hk] at hlen
  have hij : i * k + j < l.length * k := by
    have : (i + 1) * k ≤ l.length * k := Nat.mul_le_mul_right k hi
    rw [Nat.add_mul] at this
    omega
  refine ⟨?_, ?_, h.new.setCell _ _, fun b hb => h.out b hb⟩
  · refine ⟨by rw [List.length_set, List.length_set]; exact h.own.1, ?_⟩
    rcases h.own.2 with ⟨hn, _⟩ | ⟨g', cap, cur, hv, hB, hg, h3, h4, h5, h6⟩
    · cases hn
    · injection hv with hv1 hv2 hv3
      injection hv1 with hv1
      injection hv1 with hv1
      subst hv1 hv3
      refine .inr ⟨g, c, cur.setIfInBounds (i * k + j) u, by rw [List.length_set], hB, ?_, by rw [List.length_set]; exact h3, h4, by simpa using h5, ?_⟩
      · simp [World.setCell, Array.getElem?_modify, hg]
      · rw [List.length_set]
        rw [Array.toList_setIfInBounds, List.take_set, h6]
  · rw [flat_set1 f k hk l i hi x' j _ hj h2]
    refine OwC.setV _ _ h.cells (by rw [flat_get1 f k hk l i hi j hj]; exact h1) hu (fun b hb => Below.heap_setCell w _ u b (fun e => by have e' : b = g := e; subst e'; exact hgf hb))
end Go.Proofs.Ytdingkbggjehoaa
