/-
  The writes of an act on a log: plain definitions and their laws. Written by hand. The writes of an act on a log: the plan that is made is ok, and what stays is what a mended disk keeps. Written by hand. The writes of an act on a log, case by case; what a log's state says of its numbers. Printed by gen/wrf.py.
-/
import Derived.Test.YtddjgbhkfdpffaaGreatDoorWDDiskWrite
import Derived.Test.YtddjgbhkfdpffaaGreatDoorWRDisk
import Derived.Test.YtddjgbhkfdpffaaGreatDoorWOpenT
import Derived.Test.YtddjgbhkfdpffaaGreatDoorWRead
set_option linter.unusedVariables false
set_option linter.unusedSimpArgs false
namespace Go.Proofs.YtddjgbhkfdpffaaGreatDoor
open Go.ChangeShapes Go.WideShapes Go.ChangeAt Go.RowKit

/-- the number of a file, be it a plan's or a segment's -/
noncomputable def fileTop (x : ByteArray) : Nat := fileNum x 109 + fileNum x 115
theorem fileNum_one (x : ByteArray) : fileNum x 109 = 0 ∨ fileNum x 115 = 0 := by
  unfold fileNum
  by_cases h : 0 < x.size ∧ bAt x 0 = 109
  · right
    rw [if_neg (by rintro ⟨_, h2⟩; rw [h.2] at h2; cases h2)]
  · left
    rw [if_neg h]
theorem fileTop_max (x : ByteArray) (m : Nat) : max (max m (fileNum x 115)) (fileNum x 109) = max m (fileTop x) := by
  unfold fileTop
  rcases fileNum_one x with h | h <;> rw [h] <;> omega
theorem fileTop_le (x : ByteArray) : fileTop x ≤ 999999 := by
  unfold fileTop
  rcases fileNum_one x with h | h <;> rw [h]
  · have := fileNum_le x 115; omega
  · have := fileNum_le x 109; omega
noncomputable def topFrom (m : Nat) (l : List ByteArray) : Nat := l.foldl (fun m x => max m (fileTop x)) m
noncomputable def topOf (l : List ByteArray) : Nat := topFrom 0 l
theorem topOf_succ (l : List ByteArray) (j : Nat) (h : j < l.length) : topOf (l.take (j + 1)) = max (topOf (l.take j)) (fileTop l[j]) := by
  unfold topOf topFrom
  rw [List.take_succ_eq_append_getElem h, List.foldl_append]
  rfl
theorem topFrom_le (l : List ByteArray) : ∀ (m k : Nat), topFrom m l ≤ k ↔ m ≤ k ∧ ∀ x ∈ l, fileTop x ≤ k := by
  induction l with
  | nil => intro m k; exact ⟨fun h => ⟨h, fun x hx => by cases hx⟩, fun h => h.1⟩
  | cons y l ih =>
    intro m k
    have h := ih (max m (fileTop y)) k
    unfold topFrom at h ⊢
    rw [List.foldl_cons, h]
    simp only [List.mem_cons, forall_eq_or_imp, Nat.max_le, and_assoc]
theorem topOf_le (l : List ByteArray) (k : Nat) : topOf l ≤ k ↔ ∀ x ∈ l, fileTop x ≤ k := by
  unfold topOf
  rw [topFrom_le]
  simp
theorem topOf_bd (l : List ByteArray) : topOf l ≤ 999999 := (topOf_le l _).2 (fun x _ => fileTop_le x)
theorem topOf_same {l r : List ByteArray} (h : ∀ x, x ∈ l ↔ x ∈ r) : topOf l = topOf r := by
  apply Nat.le_antisymm
  · exact (topOf_le l _).2 (fun x hx => (topOf_le r _).1 (Nat.le_refl _) x ((h x).1 hx))
  · exact (topOf_le r _).2 (fun x hx => (topOf_le l _).1 (Nat.le_refl _) x ((h x).2 hx))
/-- names of numbers -/
theorem fileNum_name (c : UInt8) (n : Nat) (h0 : 1 ≤ n) (h1 : n ≤ 999999) : fileNum (⟨#[c]⟩ ++ dec (n : Int)) c.toNat = n := by
  have hb : (⟨#[c]⟩ ++ dec (n : Int) : ByteArray).data.toList = c :: (dec (n : Int)).data.toList := by simp
  have hsz : (⟨#[c]⟩ ++ dec (n : Int) : ByteArray).size = (dec (n : Int)).size + 1 := by rw [ByteArray.size_append]; show 1 + _ = _; omega
  have h0' : 0 < (⟨#[c]⟩ ++ dec (n : Int) : ByteArray).size := by omega
  have hg : (⟨#[c]⟩ ++ dec (n : Int) : ByteArray)[0].toNat = c.toNat := by
    have e : ((⟨#[c]⟩ ++ dec (n : Int) : ByteArray).data.toList)[0]? = some c := by rw [hb]; rfl
    have e2 : ((⟨#[c]⟩ ++ dec (n : Int) : ByteArray).data.toList)[0]? = some (⟨#[c]⟩ ++ dec (n : Int) : ByteArray)[0] := by
      rw [List.getElem?_eq_getElem (by rw [hb]; simp)]
      simp [ByteArray.getElem_eq_getElem_data]
    rw [e] at e2
    injection e2 with e2
    rw [← e2]
  rw [fileNum_head h0' hg]
  have hr : (⟨#[c]⟩ ++ dec (n : Int) : ByteArray).extract 1 (⟨#[c]⟩ ++ dec (n : Int) : ByteArray).size = dec (n : Int) := bytes_inj (by rw [rest_bytes, hb]; rfl)
  rw [hr, numAt_yes (z := (n : Int)) (by omega) (by omega) rfl]
  omega
theorem fileNum_other_name (c k : UInt8) (hck : c ≠ k) (n : Nat) : fileNum (⟨#[c]⟩ ++ dec (n : Int)) k.toNat = 0 := by
  apply fileNum_other
  rintro ⟨h0, h1⟩
  have hb : (⟨#[c]⟩ ++ dec (n : Int) : ByteArray).data.toList = c :: (dec (n : Int)).data.toList := by simp
  have e : ((⟨#[c]⟩ ++ dec (n : Int) : ByteArray).data.toList)[0]? = some c := by rw [hb]; rfl
  have e2 : ((⟨#[c]⟩ ++ dec (n : Int) : ByteArray).data.toList)[0]? = some (⟨#[c]⟩ ++ dec (n : Int) : ByteArray)[0] := by
    rw [List.getElem?_eq_getElem (by rw [hb]; simp)]
    simp [ByteArray.getElem_eq_getElem_data]
  rw [e] at e2
  injection e2 with e2
  rw [← e2] at h1
  exact hck (UInt8.toNat_inj.1 h1)
theorem fileTop_seg (n : Nat) (h0 : 1 ≤ n) (h1 : n ≤ 999999) : fileTop (segName n) = n := by
  have a := fileNum_name 115 n h0 h1
  have b := fileNum_other_name 115 109 (by decide) n
  unfold fileTop segName
  rw [show (109 : Nat) = (109 : UInt8).toNat from rfl, show (115 : Nat) = (115 : UInt8).toNat from rfl, b, a]
  omega
theorem fileNum_plan {x : ByteArray} (h : fileNum x 109 ≠ 0) : x = planFile (fileNum x 109) := by
  by_cases hh : ∃ h0 : 0 < x.size, x[0].toNat = 109
  · obtain ⟨h0, h1⟩ := hh
    rw [fileNum_head h0 h1] at h ⊢
    unfold numAt at h ⊢
    cases hz : numOf (x.extract 1 x.size) with
    | none => rw [hz] at h; exact absurd rfl h
    | some z =>
      rw [hz] at h
      dsimp only at h ⊢
      by_cases hb : 1 ≤ z ∧ z ≤ 999999
      · rw [if_pos hb]
        have hd := (numOf_wf hz).2.2
        apply bytes_inj
        have e : x.data.toList = x[0] :: x.data.toList.drop 1 := by
          have hl : 0 < x.data.toList.length := by rw [← size_bytes]; exact h0
          conv => lhs; rw [← List.drop_zero (l := x.data.toList), List.drop_eq_getElem_cons hl]
          simp [ByteArray.getElem_eq_getElem_data]
        have e3 : (planFile (z.toNat : Int)).data.toList = 109 :: (dec (z.toNat : Int)).data.toList := by unfold planFile; simp
        rw [e3, show ((z.toNat : Nat) : Int) = z by omega, hd, rest_bytes, e]
        congr 1
        exact UInt8.toNat_inj.1 h1
      · rw [if_neg hb] at h
        exact absurd rfl h
  · exact absurd (fileNum_other hh) h
theorem newestOf_mem (d : Disk) : ∀ (l : List ByteArray) (p : LogPlan) (n : Nat), (newestOf d l p n).2 = n ∨ ∃ x ∈ l, fileNum x 109 = (newestOf d l p n).2
  | [], p, n => .inl rfl
  | s :: r, p, n => by
    unfold newestOf
    split
    · rcases newestOf_mem d r (readP (d.lookT s)) (fileNum s 109) with h | ⟨x, hx, hn⟩
      · exact .inr ⟨s, by simp, h.symm⟩
      · exact .inr ⟨x, by simp [hx], hn⟩
    · rcases newestOf_mem d r p n with h | ⟨x, hx, hn⟩
      · exact .inl h
      · exact .inr ⟨x, by simp [hx], hn⟩
theorem newest_mem (d : Disk) (h : d.newest.2 ≠ 0) : planFile d.newest.2 ∈ d.shown := by
  rcases newestOf_mem d d.shown LogPlan.zero 0 with h2 | ⟨x, hx, hn⟩
  · exact absurd h2 h
  · have hn : fileNum x 109 = d.newest.2 := hn
    have := fileNum_plan (x := x) (by rw [hn]; exact h)
    rw [hn] at this
    rw [← this]
    exact hx
/-! ### the writes -/
def wOf (k : Int) (n : ByteArray) : DiskWrite := ⟨k, n, .empty⟩
def planWrites (t : Int) (p : LogPlan) : List DiskWrite := [wOf 1 (planFile t), ⟨2, planFile t, p.text⟩, wOf 3 (planFile t), wOf 5 .empty]
def closed (t : Int) (st : LogState) : LogPlan := ⟨st.plan.parts ++ [⟨st.plan.open_, st.plan.first, st.next, st.size⟩], t, st.next⟩
def closing (t : Int) (st : LogState) : List DiskWrite := wOf 1 (segName t) :: planWrites t (closed t st) ++ [wOf 4 (planFile st.num), wOf 5 .empty]
noncomputable def closeW (names : List ByteArray) (st : LogState) : Option (List DiskWrite) :=
  if tb (topOf names < 999999 ∧ names.length ≤ 62 ∧ st.plan.parts.length < 40) = true then some (closing ((topOf names + 1 : Nat) : Int) st) else none
def Disk.fileList (d : Disk) : List ByteArray := d.files.map DiskFile.name
def firstPlan (t : Int) : LogPlan := ⟨[], t, 1⟩
noncomputable def Disk.birth (d : Disk) : Option (List DiskWrite) :=
  if tb (topOf d.fileList < 999999 ∧ d.fileList.length ≤ 62) = true then some (d.shown.map (wOf 4) ++ (wOf 1 (segName ((topOf d.fileList + 1 : Nat) : Int)) :: planWrites ((topOf d.fileList + 1 : Nat) : Int) (firstPlan ((topOf d.fileList + 1 : Nat) : Int)))) else none
def stays (st : LogState) : List ByteArray := planFile st.num :: segName st.plan.open_ :: st.plan.parts.map (fun p => segName p.num)
noncomputable def goners (l : List ByteArray) (st : LogState) : List ByteArray := l.filter (fun x => !tb (x ∈ stays st))
noncomputable def keepers (l : List ByteArray) (st : LogState) : List ByteArray := l.filter (fun x => tb (x ∈ stays st))
noncomputable def Disk.swept (d : Disk) (st : LogState) : List DiskWrite := wOf 3 (segName st.plan.open_) :: (goners d.shown st).map (wOf 4) ++ [wOf 5 .empty]
noncomputable def Disk.mended (d : Disk) (st : LogState) : Option (List DiskWrite) :=
  if st.torn = true then (closeW (stays st) st).map (d.swept st ++ ·) else some (d.swept st)
noncomputable def Disk.writes (d : Disk) (a : LogAct) : List DiskWrite × Int × Int :=
  if d.open_.code = 1 ∧ a.kind = 4 then (match d.birth with | some l => (l, 0, 0) | none => ([], 0, 4))
  else if d.open_.code ≠ 0 then ([], 0, d.open_.code)
  else if a.kind = 4 then (match d.mended d.open_ with | some l => (l, 0, 0) | none => ([], 0, 4))
  else if ¬ (1 ≤ a.kind ∧ a.kind ≤ 4) then ([], 0, 7)
  else if d.open_.torn = true then ([], 0, 3)
  else if a.kind = 2 then ([wOf 3 (segName d.open_.plan.open_)], 0, 0)
  else if a.kind = 3 then (match closeW d.fileList d.open_ with | some l => (wOf 3 (segName d.open_.plan.open_) :: l, 0, 0) | none => ([], 0, 4))
  else if 2000 < a.data.size then ([], 0, 5)
  else if 999999 < d.open_.next ∨ 8000 < d.open_.size + 5 + a.data.size then ([], 0, 4)
  else ([⟨2, segName d.open_.plan.open_, (LogRecord.mk d.open_.next a.data).bytes⟩], d.open_.next, 0)
theorem part_looked {d : Disk} {p : LogPlan} : ∀ {a : List LogRecord}, d.parts p.parts = some a → ∀ i (hi : i < p.parts.length), d.lookB (segName p.parts[i].num) = true := by
  intro a ha i hi
  cases hq : d.parts (p.parts.take (i + 1)) with
  | none => rw [d.parts_none p.parts (i + 1) hq] at ha; cases ha
  | some b =>
    rw [d.parts_succ p.parts i hi] at hq
    unfold Disk.addPart at hq
    cases h1 : d.parts (p.parts.take i) with
    | none => rw [h1] at hq; cases hq
    | some c =>
      rw [h1] at hq
      dsimp only at hq
      cases h2 : d.part p.parts[i] with
      | none => rw [h2] at hq; cases hq
      | some l =>
        unfold Disk.part at h2
        split at h2
        · rename_i hc
          exact (tb_got hc).1
        · cases h2
/-- what is true of a log that is whole -/
structure Disk.Whole (d : Disk) (st : LogState) : Prop where
  ok : tb d.ok = true
  plan : st.plan.ok
  num : 1 ≤ st.num ∧ st.num ≤ 999999
  next : st.plan.first ≤ st.next ∧ st.next ≤ 1000000
  size : 0 ≤ st.size ∧ st.size ≤ 20000
  mem : ∀ x ∈ stays st, x ∈ d.shown
theorem open_whole {d : Disk} (h : d.open_.code = 0) : d.Whole d.open_ := by
  have hb : ∀ c : Int, c ≠ 0 → d.open_ = LogState.bad c → d.Whole d.open_ := fun c hc e => absurd (by rw [e] at h; exact h) hc
  by_cases hok : tb d.ok = true
  rotate_left
  · exact hb 7 (by decide) (stopen_no (by simpa using hok))
  by_cases hk : d.newest.2 = 0
  · exact hb 1 (by decide) (stopen_none (p := d.newest.1) hok (by rw [← hk]))
  have hp := newest_ok d hk
  cases ha : d.parts d.newest.1.parts with
  | none => exact hb 2 (by decide) (stopen_lost (p := d.newest.1) (k := d.newest.2) hok rfl hk ha)
  | some a =>
    by_cases hr : d.lookB (segName d.newest.1.open_) = true ∧ Runs d.newest.1.first (frFrom (d.lookT (segName d.newest.1.open_)) 0).1
    rotate_left
    · exact hb 2 (by decide) (stopen_torn (p := d.newest.1) (k := d.newest.2) hok rfl hk ha hr)
    rw [stopen_yes (p := d.newest.1) (k := d.newest.2) hok rfl hk ha hr]
    have hbd := fr_bd (d.lookT (segName d.newest.1.open_))
    have hls := d.look_size (segName d.newest.1.open_)
    have hfs := d.newest.1.first_small hp
    have hle := newest_le d
    refine ⟨hok, hp, ⟨by show (1 : Int) ≤ (d.newest.2 : Int); omega, by show (d.newest.2 : Int) ≤ 999999; omega⟩, ⟨by show d.newest.1.first ≤ d.newest.1.first + _; omega, ?_⟩, ⟨by show (0 : Int) ≤ ((frFrom (d.lookT (segName d.newest.1.open_)) 0).2 : Int); omega, by show ((frFrom (d.lookT (segName d.newest.1.open_)) 0).2 : Int) ≤ 20000; omega⟩, ?_⟩
    · show d.newest.1.first + ((frFrom (d.lookT (segName d.newest.1.open_)) 0).1.length : Int) ≤ 1000000
      rcases Nat.eq_zero_or_pos (frFrom (d.lookT (segName d.newest.1.open_)) 0).1.length with e | e
      · omega
      · have h1 := hr.2 _ (Nat.sub_lt e (Nat.lt_succ_self 0))
        have h2 := hbd.2.2 _ (List.getElem_mem (Nat.sub_lt e (Nat.lt_succ_self 0)))
        omega
    · intro x hx
      unfold stays at hx
      rcases List.mem_cons.1 hx with rfl | hx
      · exact newest_mem d hk
      rcases List.mem_cons.1 hx with rfl | hx
      · exact tb_got hr.1
      obtain ⟨p, hpm, rfl⟩ := List.mem_map.1 hx
      obtain ⟨i, hi, rfl⟩ := List.getElem_of_mem hpm
      exact tb_got (part_looked ha i hi)
end Go.Proofs.YtddjgbhkfdpffaaGreatDoor
set_option linter.unusedVariables false
set_option linter.unusedSimpArgs false
namespace Go.Proofs.YtddjgbhkfdpffaaGreatDoor
open Go.ChangeShapes Go.WideShapes Go.ChangeAt Go.RowKit

theorem dec_nat_inj {a b : Nat} (ha : 1 ≤ a ∧ a ≤ 999999) (hb : 1 ≤ b ∧ b ≤ 999999) (h : segName (a : Int) = segName (b : Int)) : a = b := by
  have h1 := fileTop_seg a ha.1 ha.2
  have h2 := fileTop_seg b hb.1 hb.2
  rw [h] at h1
  omega
theorem seg_inj {a b : Int} (ha : 1 ≤ a ∧ a ≤ 999999) (hb : 1 ≤ b ∧ b ≤ 999999) (h : segName a = segName b) : a = b := by
  obtain ⟨m, rfl⟩ : ∃ m : Nat, a = (m : Int) := ⟨a.toNat, by omega⟩
  obtain ⟨n, rfl⟩ : ∃ n : Nat, b = (n : Int) := ⟨b.toNat, by omega⟩
  have := dec_nat_inj (a := m) (b := n) (by omega) (by omega) h
  omega
theorem seg_plan {a b : Int} : planFile a ≠ segName b := fun h => by
  have h2 := congrArg (fun x : ByteArray => x.data.toList[0]?) h
  unfold planFile segName at h2
  simp at h2
theorem fileTop_segI {a : Int} (ha : 1 ≤ a ∧ a ≤ 999999) : (fileTop (segName a) : Int) = a := by
  obtain ⟨m, rfl⟩ : ∃ m : Nat, a = (m : Int) := ⟨a.toNat, by omega⟩
  rw [fileTop_seg m (by omega) (by omega)]
theorem Disk.shown_file {d : Disk} (hok : tb d.ok = true) {x : ByteArray} (h : x ∈ d.shown) : x ∈ d.fileList := by
  rw [Disk.shown_yes hok] at h
  obtain ⟨j, hj, e⟩ := (d.ok_after (tb_got hok) _ (Nat.le_refl _)).2.2 x h
  unfold Disk.fileList
  rw [← e]
  exact List.mem_map.2 ⟨_, List.getElem_mem hj, rfl⟩
theorem stays_nodup {d : Disk} {st : LogState} (h : d.Whole st) : (stays st).Nodup := by
  unfold stays
  have hf := h.plan.2.2.1
  have ho := h.plan.2.1
  refine List.nodup_cons.2 ⟨fun hm => ?_, List.nodup_cons.2 ⟨fun hm => ?_, ?_⟩⟩
  · rcases List.mem_cons.1 hm with e | hm
    · exact seg_plan e
    · obtain ⟨p, _, e⟩ := List.mem_map.1 hm
      exact seg_plan e.symm
  · obtain ⟨p, hp, e⟩ := List.mem_map.1 hm
    obtain ⟨i, hi, rfl⟩ := List.getElem_of_mem hp
    exact (hf i hi).2.1 (seg_inj (hf i hi).1 ho e)
  · refine List.pairwise_iff_getElem.2 (fun i j hi hj hij e => ?_)
    simp only [List.length_map] at hi hj
    simp only [List.getElem_map] at e
    exact (hf j hj).2.2.2.2.2 i hij (seg_inj (hf i hi).1 (hf j hj).1 e)
theorem keepers_mem {d : Disk} {st : LogState} (h : d.Whole st) (x : ByteArray) : x ∈ keepers d.shown st ↔ x ∈ stays st := by
  unfold keepers
  rw [List.mem_filter]
  exact ⟨fun h => tb_got h.2, fun k => ⟨h.mem x k, tb_true k⟩⟩
theorem keepers_nodup {d : Disk} {st : LogState} (h : d.Whole st) : (keepers d.shown st).Nodup := by
  unfold keepers
  refine List.Pairwise.filter _ ?_
  show d.shown.Nodup
  rw [Disk.shown_yes h.ok]
  exact (d.ok_after (tb_got h.ok) _ (Nat.le_refl _)).2.1
theorem keepers_len {d : Disk} {st : LogState} (h : d.Whole st) : (keepers d.shown st).length = (stays st).length :=
  ((List.perm_ext_iff_of_nodup (keepers_nodup h) (stays_nodup h)).2 (keepers_mem h)).length_eq
theorem closeW_keepers {d : Disk} {st : LogState} (h : d.Whole st) : closeW (keepers d.shown st) st = closeW (stays st) st := by
  unfold closeW
  rw [topOf_same (keepers_mem h), keepers_len h]
theorem closed_ok {d : Disk} {st : LogState} (h : d.Whole st) {names : List ByteArray} (hm : ∀ x ∈ stays st, x ∈ names) (ht : topOf names < 999999) (hl : st.plan.parts.length < 40) : (closed ((topOf names + 1 : Nat) : Int) st).ok := by
  have hf := h.plan.2.2.1
  have ho := h.plan.2.1
  have hfs := st.plan.first_small h.plan
  have hlow : ∀ n : Int, 1 ≤ n ∧ n ≤ 999999 → segName n ∈ stays st → n ≠ ((topOf names + 1 : Nat) : Int) := fun n hn hmem e => by
    have h1 := (topOf_le names (topOf names)).1 (Nat.le_refl _) _ (hm _ hmem)
    have h2 := fileTop_segI hn
    omega
  have hso : segName st.plan.open_ ∈ stays st := by unfold stays; simp
  have hsp : ∀ i (hi : i < st.plan.parts.length), segName st.plan.parts[i].num ∈ stays st := fun i hi => by
    unfold stays
    exact List.mem_cons_of_mem _ (List.mem_cons_of_mem _ (List.mem_map.2 ⟨_, List.getElem_mem hi, rfl⟩))
  have hlen : (closed ((topOf names + 1 : Nat) : Int) st).parts.length = st.plan.parts.length + 1 := by unfold closed; simp
  have hat : ∀ i (hi : i < st.plan.parts.length) (h2 : i < (closed ((topOf names + 1 : Nat) : Int) st).parts.length), (closed ((topOf names + 1 : Nat) : Int) st).parts[i] = st.plan.parts[i] := fun i hi h2 => List.getElem_append_left hi
  have hlast : ∀ (h2 : st.plan.parts.length < (closed ((topOf names + 1 : Nat) : Int) st).parts.length), (closed ((topOf names + 1 : Nat) : Int) st).parts[st.plan.parts.length] = ⟨st.plan.open_, st.plan.first, st.next, st.size⟩ := fun h2 => by
    have e : ∀ (l : List LogPart) (x : LogPart) (h : l.length < (l ++ [x]).length), (l ++ [x])[l.length]'h = x := fun l x h => by simp
    exact e _ _ h2
  have haft : ∀ i, i ≤ st.plan.parts.length → (closed ((topOf names + 1 : Nat) : Int) st).after i = st.plan.after i := fun i hi => by
    match i, hi with
    | 0, _ => rfl
    | i + 1, hi => rw [LogPlan.after_succ _ i (by omega), LogPlan.after_succ _ i (by omega), hat i (by omega)]
  refine ⟨by omega, ⟨by show (1 : Int) ≤ ((topOf names + 1 : Nat) : Int); omega, by show ((topOf names + 1 : Nat) : Int) ≤ 999999; omega⟩, fun i hi => ?_, ?_⟩
  · by_cases hn : i < st.plan.parts.length
    · obtain ⟨g1, g2, g3, g4, g5, g6⟩ := hf i hn
      rw [LogPlan.fine_iff, hat i hn hi, haft i (by omega)]
      refine ⟨g1, hlow _ g1 (hsp i hn), g3, g4, g5, fun j hj => ?_⟩
      rw [hat j (by omega)]
      exact g6 j hj
    · obtain rfl : i = st.plan.parts.length := by omega
      rw [LogPlan.fine_iff, hlast hi, haft _ (Nat.le_refl _)]
      refine ⟨ho, hlow _ ho hso, h.plan.2.2.2, h.next, h.size, fun j hj => ?_⟩
      rw [hat j hj]
      exact (hf j hj).2.1
  · rw [hlen, LogPlan.after_succ _ _ (by omega), hlast]
    rfl
theorem firstPlan_ok (n : Nat) (h : n < 999999) : (firstPlan ((n + 1 : Nat) : Int)).ok := by
  refine ⟨Nat.zero_le _, ⟨by show (1 : Int) ≤ ((n + 1 : Nat) : Int); omega, by show ((n + 1 : Nat) : Int) ≤ 999999; omega⟩, fun i hi => absurd hi (Nat.not_lt_zero _), rfl⟩
theorem closeW_yes {names : List ByteArray} {st : LogState} (h : topOf names < 999999 ∧ names.length ≤ 62 ∧ st.plan.parts.length < 40) : closeW names st = some (closing ((topOf names + 1 : Nat) : Int) st) := by
  unfold closeW
  rw [if_pos (tb_true h)]
theorem closeW_no {names : List ByteArray} {st : LogState} (h : ¬ (topOf names < 999999 ∧ names.length ≤ 62 ∧ st.plan.parts.length < 40)) : closeW names st = none := by
  unfold closeW
  rw [if_neg (by rw [tb_false h]; simp)]
theorem Disk.birth_yes {d : Disk} (h : topOf d.fileList < 999999 ∧ d.fileList.length ≤ 62) : d.birth = some (d.shown.map (wOf 4) ++ (wOf 1 (segName ((topOf d.fileList + 1 : Nat) : Int)) :: planWrites ((topOf d.fileList + 1 : Nat) : Int) (firstPlan ((topOf d.fileList + 1 : Nat) : Int)))) := by
  unfold Disk.birth
  rw [if_pos (tb_true h)]
theorem Disk.birth_no {d : Disk} (h : ¬ (topOf d.fileList < 999999 ∧ d.fileList.length ≤ 62)) : d.birth = none := by
  unfold Disk.birth
  rw [if_neg (by rw [tb_false h]; simp)]
theorem goners_succ (l : List ByteArray) (st : LogState) (j : Nat) (h : j < l.length) : goners (l.take (j + 1)) st = goners (l.take j) st ++ (if tb (l[j] ∈ stays st) = true then [] else [l[j]]) := by
  unfold goners
  rw [List.take_succ_eq_append_getElem h, List.filter_append]
  congr 1
  cases hq : tb (l[j] ∈ stays st) <;> simp [hq]
theorem keepers_succ (l : List ByteArray) (st : LogState) (j : Nat) (h : j < l.length) : keepers (l.take (j + 1)) st = keepers (l.take j) st ++ (if tb (l[j] ∈ stays st) = true then [l[j]] else []) := by
  unfold keepers
  rw [List.take_succ_eq_append_getElem h, List.filter_append]
  congr 1
  cases hq : tb (l[j] ∈ stays st) <;> simp [hq]
/-- the results of an act: three values -/
def WrRet (w : World) (l : List DiskWrite) (pos code : Int) (e : Ending) (w' : World) : Prop :=
  ∃ v fq, e = .returned (.tuple #[v, .int .i64 pos, .int .i64 code]) ∧ Ow w' (.s 3 l.length (l.flatMap DiskWrite.cells)) v fq ∧ New w' fq w.heap.size ∧ Below w.heap.size w w'
/-- writes, or none and a code -/
def WrRet2 (w : World) (o : Option (List DiskWrite)) (code : Int) (e : Ending) (w' : World) : Prop :=
  (match o with
  | some l => ∃ v fq, e = .returned (.tuple #[v, .int .i64 0]) ∧ Ow w' (.s 3 l.length (l.flatMap DiskWrite.cells)) v fq ∧ New w' fq w.heap.size
  | none => ∃ v fq, e = .returned (.tuple #[v, .int .i64 code]) ∧ Ow w' (.s 3 ([] : List DiskWrite).length (([] : List DiskWrite).flatMap DiskWrite.cells)) v fq ∧ New w' fq w.heap.size) ∧ Below w.heap.size w w'
theorem wr2_yes {w w' : World} {o : Option (List DiskWrite)} {code : Int} {l : List DiskWrite} {v : Value} {fq : List Nat} (h : o = some l) (ho : Ow w' (.s 3 l.length (l.flatMap DiskWrite.cells)) v fq) (hn : New w' fq w.heap.size) (hb : Below w.heap.size w w') : WrRet2 w o code (.returned (.tuple #[v, .int .i64 0])) w' := by
  subst h
  exact ⟨⟨v, fq, rfl, ho, hn⟩, hb⟩
theorem wr2_no {w w' : World} {o : Option (List DiskWrite)} {code : Int} {v : Value} {fq : List Nat} (h : o = none) (ho : Ow w' (.s 3 ([] : List DiskWrite).length (([] : List DiskWrite).flatMap DiskWrite.cells)) v fq) (hn : New w' fq w.heap.size) (hb : Below w.heap.size w w') : WrRet2 w o code (.returned (.tuple #[v, .int .i64 code])) w' := by
  subst h
  exact ⟨⟨v, fq, rfl, ho, hn⟩, hb⟩
end Go.Proofs.YtddjgbhkfdpffaaGreatDoor
set_option linter.unusedVariables false
set_option linter.unusedSimpArgs false
namespace Go.Proofs.YtddjgbhkfdpffaaGreatDoor
open Go.ChangeShapes Go.WideShapes Go.ChangeAt Go.RowKit

theorem wr_birth0 {d : Disk} {a : LogAct} (h1 : d.open_.code = 1) (hk : a.kind = 4) (he : d.birth = none) : d.writes a = ([], 0, 4) := by
  unfold Disk.writes
  rw [if_pos ⟨h1, hk⟩]
  rw [he]
theorem wr_birth1 {d : Disk} {a : LogAct} {l : List DiskWrite} (h1 : d.open_.code = 1) (hk : a.kind = 4) (he : d.birth = some l) : d.writes a = (l, 0, 0) := by
  unfold Disk.writes
  rw [if_pos ⟨h1, hk⟩]
  rw [he]
theorem wr_code {d : Disk} {a : LogAct} (h : d.open_.code ≠ 0) (hn : ¬ (d.open_.code = 1 ∧ a.kind = 4)) : d.writes a = (([], 0, d.open_.code)) := by
  unfold Disk.writes
  rw [if_neg hn, if_pos h]
theorem wr_mend0 {d : Disk} {a : LogAct} (h : d.open_.code = 0) (hk : a.kind = 4) (he : d.mended d.open_ = none) : d.writes a = ([], 0, 4) := by
  unfold Disk.writes
  rw [if_neg (fun k => by have := k.1; omega), if_neg (fun k => k h)]
  rw [if_pos hk]
  rw [he]
theorem wr_mend1 {d : Disk} {a : LogAct} {l : List DiskWrite} (h : d.open_.code = 0) (hk : a.kind = 4) (he : d.mended d.open_ = some l) : d.writes a = (l, 0, 0) := by
  unfold Disk.writes
  rw [if_neg (fun k => by have := k.1; omega), if_neg (fun k => k h)]
  rw [if_pos hk]
  rw [he]
theorem wr_kind {d : Disk} {a : LogAct} (h : d.open_.code = 0) (hk : ¬ (1 ≤ a.kind ∧ a.kind ≤ 4)) : d.writes a = (([], 0, 7)) := by
  unfold Disk.writes
  rw [if_neg (fun k => by have := k.1; omega), if_neg (fun k => k h)]
  rw [if_neg (fun k => by omega), if_pos hk]
theorem wr_torn {d : Disk} {a : LogAct} (h : d.open_.code = 0) (hk : 1 ≤ a.kind ∧ a.kind ≤ 4) (h4 : a.kind ≠ 4) (ht : d.open_.torn = true) : d.writes a = (([], 0, 3)) := by
  unfold Disk.writes
  rw [if_neg (fun k => by have := k.1; omega), if_neg (fun k => k h)]
  rw [if_neg h4, if_neg (fun k => k hk), if_pos ht]
theorem wr_sync {d : Disk} {a : LogAct} (h : d.open_.code = 0) (hk : 1 ≤ a.kind ∧ a.kind ≤ 4) (h4 : a.kind ≠ 4) (ht : d.open_.torn = false) (h2 : a.kind = 2) : d.writes a = (([wOf 3 (segName d.open_.plan.open_)], 0, 0)) := by
  unfold Disk.writes
  rw [if_neg (fun k => by have := k.1; omega), if_neg (fun k => k h)]
  rw [if_neg h4, if_neg (fun k => k hk), if_neg (by rw [ht]; simp)]
  rw [if_pos h2]
theorem wr_roll0 {d : Disk} {a : LogAct} (h : d.open_.code = 0) (hk : 1 ≤ a.kind ∧ a.kind ≤ 4) (h4 : a.kind ≠ 4) (ht : d.open_.torn = false) (h3 : a.kind = 3) (he : closeW d.fileList d.open_ = none) : d.writes a = ([], 0, 4) := by
  unfold Disk.writes
  rw [if_neg (fun k => by have := k.1; omega), if_neg (fun k => k h)]
  rw [if_neg h4, if_neg (fun k => k hk), if_neg (by rw [ht]; simp)]
  rw [if_neg (fun k => by omega), if_pos h3]
  rw [he]
theorem wr_roll1 {d : Disk} {a : LogAct} {l : List DiskWrite} (h : d.open_.code = 0) (hk : 1 ≤ a.kind ∧ a.kind ≤ 4) (h4 : a.kind ≠ 4) (ht : d.open_.torn = false) (h3 : a.kind = 3) (he : closeW d.fileList d.open_ = some l) : d.writes a = (wOf 3 (segName d.open_.plan.open_) :: l, 0, 0) := by
  unfold Disk.writes
  rw [if_neg (fun k => by have := k.1; omega), if_neg (fun k => k h)]
  rw [if_neg h4, if_neg (fun k => k hk), if_neg (by rw [ht]; simp)]
  rw [if_neg (fun k => by omega), if_pos h3]
  rw [he]
theorem wr_large {d : Disk} {a : LogAct} (h : d.open_.code = 0) (hk : 1 ≤ a.kind ∧ a.kind ≤ 4) (h4 : a.kind ≠ 4) (ht : d.open_.torn = false) (h1 : a.kind = 1) (hs : 2000 < a.data.size) : d.writes a = (([], 0, 5)) := by
  unfold Disk.writes
  rw [if_neg (fun k => by have := k.1; omega), if_neg (fun k => k h)]
  rw [if_neg h4, if_neg (fun k => k hk), if_neg (by rw [ht]; simp)]
  rw [if_neg (fun k => by omega), if_neg (fun k => by omega), if_pos hs]
theorem wr_full {d : Disk} {a : LogAct} (h : d.open_.code = 0) (hk : 1 ≤ a.kind ∧ a.kind ≤ 4) (h4 : a.kind ≠ 4) (ht : d.open_.torn = false) (h1 : a.kind = 1) (hs : ¬ 2000 < a.data.size) (hf : 999999 < d.open_.next ∨ 8000 < d.open_.size + 5 + a.data.size) : d.writes a = (([], 0, 4)) := by
  unfold Disk.writes
  rw [if_neg (fun k => by have := k.1; omega), if_neg (fun k => k h)]
  rw [if_neg h4, if_neg (fun k => k hk), if_neg (by rw [ht]; simp)]
  rw [if_neg (fun k => by omega), if_neg (fun k => by omega), if_neg hs, if_pos hf]
theorem wr_add {d : Disk} {a : LogAct} (h : d.open_.code = 0) (hk : 1 ≤ a.kind ∧ a.kind ≤ 4) (h4 : a.kind ≠ 4) (ht : d.open_.torn = false) (h1 : a.kind = 1) (hs : ¬ 2000 < a.data.size) (hf : ¬ (999999 < d.open_.next ∨ 8000 < d.open_.size + 5 + a.data.size)) : d.writes a = (([⟨2, segName d.open_.plan.open_, (LogRecord.mk d.open_.next a.data).bytes⟩], d.open_.next, 0)) := by
  unfold Disk.writes
  rw [if_neg (fun k => by have := k.1; omega), if_neg (fun k => k h)]
  rw [if_neg h4, if_neg (fun k => k hk), if_neg (by rw [ht]; simp)]
  rw [if_neg (fun k => by omega), if_neg (fun k => by omega), if_neg hs, if_neg hf]
theorem open_bad {d : Disk} (h : d.open_.code ≠ 0) : ∃ c : Int, c ≠ 0 ∧ d.open_ = LogState.bad c ∧ (c = 1 → tb d.ok = true) := by
  by_cases hok : tb d.ok = true
  rotate_left
  · exact ⟨7, by decide, stopen_no (by simpa using hok), fun e => by cases e⟩
  by_cases hk : d.newest.2 = 0
  · exact ⟨1, by decide, stopen_none (p := d.newest.1) hok (by rw [← hk]), fun _ => hok⟩
  cases ha : d.parts d.newest.1.parts with
  | none => exact ⟨2, by decide, stopen_lost (p := d.newest.1) (k := d.newest.2) hok rfl hk ha, fun _ => hok⟩
  | some a =>
    by_cases hr : d.lookB (segName d.newest.1.open_) = true ∧ Runs d.newest.1.first (frFrom (d.lookT (segName d.newest.1.open_)) 0).1
    · exact absurd (by rw [stopen_yes (p := d.newest.1) (k := d.newest.2) hok rfl hk ha hr]) h
    · exact ⟨2, by decide, stopen_torn (p := d.newest.1) (k := d.newest.2) hok rfl hk ha hr, fun _ => hok⟩
theorem open_one {d : Disk} (h : d.open_.code = 1) : tb d.ok = true := by
  obtain ⟨c, _, e, hc⟩ := open_bad (d := d) (by omega)
  rw [e] at h
  exact hc h
theorem open_seg (d : Disk) : 0 ≤ d.open_.plan.open_ ∧ d.open_.plan.open_ ≤ 9999999 := by
  by_cases h : d.open_.code = 0
  · have := (open_whole h).plan.2.1
    omega
  · obtain ⟨c, _, e, _⟩ := open_bad h
    rw [e]
    show (0 : Int) ≤ 0 ∧ (0 : Int) ≤ 9999999
    decide
theorem ok_files {d : Disk} (hok : tb d.ok = true) : (∀ i (hi : i < d.files.length), d.files[i].name.size ≤ 1048576) ∧ d.files.length ≤ 64 :=
  ⟨fun i hi => by have := ((tb_got hok).2.2.1 i hi).1.1.2.1; omega, (tb_got hok).1⟩
theorem wrRet_of {w w' : World} {p : List DiskWrite × Int × Int} {l : List DiskWrite} {pos code : Int} {v : Value} {fq : List Nat} (h : p = (l, pos, code)) (ho : Ow w' (.s 3 l.length (l.flatMap DiskWrite.cells)) v fq) (hn : New w' fq w.heap.size) (hb : Below w.heap.size w w') : WrRet w p.1 p.2.1 p.2.2 (.returned (.tuple #[v, .int .i64 pos, .int .i64 code])) w' := by
  subst h
  exact ⟨v, fq, rfl, ho, hn, hb⟩
end Go.Proofs.YtddjgbhkfdpffaaGreatDoor
