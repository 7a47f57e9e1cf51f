/-
  What a disk's log says: plain definitions. Written by hand.
-/
import Derived.Test.YtddjgbhkfdpffaaGreatDoorWCutI
import Derived.Test.YtddjgbhkfdpffaaGreatDoorWRLogAct
import Derived.Test.YtddjgbhkfdpffaaGreatDoorWPlR2
set_option linter.unusedVariables false
set_option linter.unusedSimpArgs false
namespace Go.Proofs.YtddjgbhkfdpffaaGreatDoor
open Go.ChangeShapes Go.WideShapes Go.ChangeAt Go.RowKit

theorem readP_ok {s : ByteArray} (h : readPB s = true) : (readP s).ok ∧ (readP s).text = s := by
  unfold readPB at h
  unfold readP
  cases hr : readPlan s with
  | none => rw [hr] at h; cases h
  | some q =>
    unfold readPlan at hr
    split at hr
    · rename_i hx
      injection hr with hr
      rw [← hr]
      exact Classical.choose_spec hx
    · cases hr
theorem frF_bd (d : ByteArray) : ∀ (m i : Nat), d.size - i ≤ m → i ≤ d.size → 5 * (frFrom d i).1.length + i ≤ d.size ∧ (frFrom d i).2 ≤ d.size ∧ ∀ x ∈ (frFrom d i).1, 1 ≤ x.pos ∧ x.pos ≤ 999999
  | m, i, hm, hi => by
    by_cases ho : frOk d i
    · rw [frFrom_yes ho]
      have h5 := ho.1
      have hlast := ho.2.2.2.2
      match m, hm with
      | 0, hm => omega
      | m + 1, hm =>
        obtain ⟨h1, h2, h3⟩ := frF_bd d m (i + 5 + frN d i) (by omega) (by omega)
        refine ⟨by simp only [List.length_cons]; omega, h2, fun x hx => ?_⟩
        rcases List.mem_cons.1 hx with rfl | hx
        · have a := ho.2.2.1
          have b := ho.2.2.2.1
          show (1 : Int) ≤ (frP d i : Int) ∧ (frP d i : Int) ≤ 999999
          omega
        · exact h3 x hx
    · rw [frFrom_no ho]
      exact ⟨by simp; exact hi, hi, fun x hx => by cases hx⟩
theorem fr_bd (d : ByteArray) : 5 * (frFrom d 0).1.length ≤ d.size ∧ (frFrom d 0).2 ≤ d.size ∧ ∀ x ∈ (frFrom d 0).1, 1 ≤ x.pos ∧ x.pos ≤ 999999 := by
  have h := frF_bd d d.size 0 (by omega) (Nat.zero_le _)
  exact ⟨by omega, h.2.1, h.2.2⟩
/-- the number that a text is, from 1 to 999999 -/
noncomputable def numAt (r : ByteArray) : Nat := match numOf r with
  | some z => if 1 ≤ z ∧ z ≤ 999999 then z.toNat else 0
  | none => 0
theorem numK_all : ∀ (ds : List UInt8) (k : Nat) (acc : Int), (∀ d ∈ ds, 48 ≤ d.toNat ∧ d.toNat ≤ 57) → ds.length ≤ k → numK k acc ds = (valD acc ds, ds.length)
  | [], 0, acc, _, _ => rfl
  | [], k + 1, acc, _, _ => rfl
  | d :: ds, 0, acc, _, h => by simp at h
  | d :: ds, k + 1, acc, hd, hl => by
    have ih := numK_all ds k (acc * 10 + ((d.toNat : Int) - 48)) (fun x hx => hd x (by simp [hx])) (by simpa using hl)
    simp only [numK]
    rw [if_pos (hd d (by simp)), ih]
    rfl
theorem numK_dec_all (z : Int) (h0 : 0 ≤ z) (h1 : z ≤ 9999999) : numK 7 0 (dec z).data.toList = (z, (dec z).data.toList.length) := by
  have e : (dec z).data.toList = Lib.decDigits z.toNat := by
    rw [dec_bytes]
    unfold Lib.itoa
    rw [if_neg (by omega)]
  rw [e, numK_all _ _ _ (fun d hd => digits_mem _ _ (Nat.le_refl _) d hd) (decDigits_len 6 z.toNat (by omega)), valD_digits _ _ (Nat.le_refl _)]
  congr 1
  omega
theorem numAt_le (r : ByteArray) : numAt r ≤ 999999 := by
  unfold numAt
  split
  · split <;> omega
  · omega
theorem numAt_yes {r : ByteArray} {z : Int} (h : z ≤ 999999) (h0 : 0 ≤ z) (hd : dec z = r) : numAt r = z.toNat := by
  unfold numAt
  rw [numOf_some (s := r) (z := z) ⟨by omega, by omega, hd⟩]
  simp only
  split <;> omega
theorem numAt_no {r : ByteArray} (h : ¬ ((numK 7 0 r.data.toList).2 = r.data.toList.length ∧ dec (numK 7 0 r.data.toList).1 = r ∧ (numK 7 0 r.data.toList).1 ≤ 999999)) : numAt r = 0 := by
  unfold numAt
  cases hz : numOf r with
  | none => rfl
  | some z =>
    simp only
    split
    · rename_i hb
      have hd := (numOf_wf hz).2.2
      exfalso
      apply h
      rw [← hd, numK_dec_all z (by omega) (by omega)]
      exact ⟨rfl, rfl, hb.2⟩
    · rfl
/-- the number of a file whose name begins with a letter -/
noncomputable def fileNum (s : ByteArray) (c : Nat) : Nat := if 0 < s.size ∧ bAt s 0 = c then numAt (s.extract 1 s.size) else 0
theorem fileNum_le (s : ByteArray) (c : Nat) : fileNum s c ≤ 999999 := by
  unfold fileNum
  split
  · exact numAt_le _
  · omega
/-- the newest plan among names -/
noncomputable def newestOf (d : Disk) : List ByteArray → LogPlan → Nat → LogPlan × Nat
  | [], p, n => (p, n)
  | s :: r, p, n => if n < fileNum s 109 ∧ readPB (d.lookT s) = true then newestOf d r (readP (d.lookT s)) (fileNum s 109) else newestOf d r p n
noncomputable def Disk.newest (d : Disk) : LogPlan × Nat := newestOf d d.shown LogPlan.zero 0
theorem newestOf_at (d : Disk) (l : List ByteArray) (i : Nat) (h : i < l.length) (p : LogPlan) (n : Nat) : newestOf d (l.drop i) p n = if n < fileNum l[i] 109 ∧ readPB (d.lookT l[i]) = true then newestOf d (l.drop (i + 1)) (readP (d.lookT l[i])) (fileNum l[i] 109) else newestOf d (l.drop (i + 1)) p n := by
  rw [List.drop_eq_getElem_cons h, newestOf]
theorem newestOf_ok (d : Disk) : ∀ (l : List ByteArray) (p : LogPlan) (n : Nat), (n ≠ 0 → p.ok) → ((newestOf d l p n).2 ≠ 0 → (newestOf d l p n).1.ok)
  | [], p, n, h => h
  | s :: r, p, n, h => by
    unfold newestOf
    split
    · rename_i hc
      exact newestOf_ok d r _ _ (fun _ => (readP_ok hc.2).1)
    · exact newestOf_ok d r p n h
theorem newest_ok (d : Disk) (h : d.newest.2 ≠ 0) : d.newest.1.ok := newestOf_ok d d.shown LogPlan.zero 0 (fun h => absurd rfl h) h
def segName (n : Int) : ByteArray := ⟨#[115]⟩ ++ dec n
def planFile (n : Int) : ByteArray := ⟨#[109]⟩ ++ dec n
/-- the least position that may follow i records -/
def leastAt (lo : Int) (l : List LogRecord) (i : Nat) : Int := if i = 0 then lo else ((l[i - 1]?).map LogRecord.pos).getD 0 + 1
theorem leastAt_succ (lo : Int) (l : List LogRecord) (i : Nat) (h : i < l.length) : leastAt lo l (i + 1) = l[i].pos + 1 := by
  unfold leastAt
  simp [List.getElem?_eq_getElem h]
def Rises (lo hi : Int) (l : List LogRecord) : Prop := ∀ i (h : i < l.length), leastAt lo l i ≤ l[i].pos ∧ l[i].pos < hi
def Runs (lo : Int) (l : List LogRecord) : Prop := ∀ i (h : i < l.length), l[i].pos = lo + i
/-- the records of a closed segment -/
noncomputable def Disk.part (d : Disk) (p : LogPart) : Option (List LogRecord) :=
  if tb (d.lookB (segName p.num) = true ∧ p.size ≤ (d.lookT (segName p.num)).size ∧ Rises p.first p.next (frFrom ((d.lookT (segName p.num)).extract 0 p.size.toNat) 0).1 ∧ ((frFrom ((d.lookT (segName p.num)).extract 0 p.size.toNat) 0).2 : Int) = p.size) = true
  then some (frFrom ((d.lookT (segName p.num)).extract 0 p.size.toNat) 0).1 else none
noncomputable def Disk.addPart (d : Disk) (o : Option (List LogRecord)) (p : LogPart) : Option (List LogRecord) := match o with
  | none => none
  | some a => match d.part p with
    | none => none
    | some l => some (a ++ l)
noncomputable def Disk.parts (d : Disk) (ps : List LogPart) : Option (List LogRecord) := ps.foldl d.addPart (some [])
theorem Disk.parts_succ (d : Disk) (ps : List LogPart) (i : Nat) (h : i < ps.length) : d.parts (ps.take (i + 1)) = d.addPart (d.parts (ps.take i)) ps[i] := by
  unfold Disk.parts
  rw [List.take_succ_eq_append_getElem h, List.foldl_append]
  rfl
theorem addPart_none (d : Disk) : ∀ (ps : List LogPart), ps.foldl d.addPart none = none
  | [] => rfl
  | p :: r => addPart_none d r
theorem Disk.parts_none (d : Disk) (ps : List LogPart) (i : Nat) (h : d.parts (ps.take i) = none) : d.parts ps = none := by
  unfold Disk.parts at h ⊢
  rw [← List.take_append_drop i ps, List.foldl_append, h]
  exact addPart_none d _
theorem Disk.part_len {d : Disk} {p : LogPart} {l : List LogRecord} (h : d.part p = some l) (hp : p.size ≤ 20000) : l.length ≤ 4000 ∧ ∀ x ∈ l, 1 ≤ x.pos ∧ x.pos ≤ 999999 := by
  unfold Disk.part at h
  split at h
  · rename_i hc
    injection h with h
    rw [← h]
    have hb := fr_bd ((d.lookT (segName p.num)).extract 0 p.size.toNat)
    have hsz : ((d.lookT (segName p.num)).extract 0 p.size.toNat).size ≤ p.size.toNat := by rw [ByteArray.size_extract]; omega
    exact ⟨by omega, hb.2.2⟩
  · cases h
theorem Disk.part_yes {d : Disk} {p : LogPart} (h : d.lookB (segName p.num) = true ∧ p.size ≤ (d.lookT (segName p.num)).size ∧ Rises p.first p.next (frFrom ((d.lookT (segName p.num)).extract 0 p.size.toNat) 0).1 ∧ ((frFrom ((d.lookT (segName p.num)).extract 0 p.size.toNat) 0).2 : Int) = p.size) : d.part p = some (frFrom ((d.lookT (segName p.num)).extract 0 p.size.toNat) 0).1 := by
  unfold Disk.part
  rw [if_pos (tb_true h)]
theorem Disk.part_no {d : Disk} {p : LogPart} (h : ¬ (d.lookB (segName p.num) = true ∧ p.size ≤ (d.lookT (segName p.num)).size ∧ Rises p.first p.next (frFrom ((d.lookT (segName p.num)).extract 0 p.size.toNat) 0).1 ∧ ((frFrom ((d.lookT (segName p.num)).extract 0 p.size.toNat) 0).2 : Int) = p.size)) : d.part p = none := by
  unfold Disk.part
  rw [if_neg (by rw [tb_false h]; simp)]
/-- a part of a plan that is ok -/
def LogPart.sane (x : LogPart) : Prop := (1 ≤ x.num ∧ x.num ≤ 999999) ∧ (1 ≤ x.first ∧ x.first ≤ 1000000) ∧ (1 ≤ x.next ∧ x.next ≤ 1000000) ∧ (0 ≤ x.size ∧ x.size ≤ 20000)
theorem LogPlan.sane (p : LogPlan) (h : p.ok) (i : Nat) (hi : i < p.parts.length) : p.parts[i].sane := by
  obtain ⟨h1, h2, h3, h4, h5, h6⟩ := h.2.2.1 i hi
  have h7 := p.parts_pos h i hi
  exact ⟨h1, ⟨h7.1, by omega⟩, ⟨by omega, h7.2.2⟩, h5⟩
/-- what a look at a part hands back -/
def PartRet (d : Disk) (p : LogPart) (w : World) (e : Ending) (w' : World) : Prop :=
  (match d.part p with
  | some l => ∃ v fq, e = .returned (.tuple #[v, .bool true]) ∧ Ow w' (.s 2 l.length (l.flatMap LogRecord.cells)) v fq ∧ New w' fq w.heap.size
  | none => ∃ v, e = .returned (.tuple #[v, .bool false])) ∧ Below w.heap.size w w'
theorem partRet_yes {d : Disk} {p : LogPart} {w w' : World} {v : Value} {fq : List Nat} {l : List LogRecord} (h : d.part p = some l) (ho : Ow w' (.s 2 l.length (l.flatMap LogRecord.cells)) v fq) (hn : New w' fq w.heap.size) (hb : Below w.heap.size w w') : PartRet d p w (.returned (.tuple #[v, .bool true])) w' := by
  unfold PartRet
  rw [h]
  exact ⟨⟨v, fq, rfl, ho, hn⟩, hb⟩
theorem partRet_no {d : Disk} {p : LogPart} {w w' : World} {v : Value} (h : d.part p = none) (hb : Below w.heap.size w w') : PartRet d p w (.returned (.tuple #[v, .bool false])) w' := by
  unfold PartRet
  rw [h]
  exact ⟨⟨v, rfl⟩, hb⟩
def LogState.bad (c : Int) : LogState := ⟨c, 0, LogPlan.zero, 0, false, 0, []⟩
/-- what a disk's log says -/
noncomputable def Disk.open_ (d : Disk) : LogState :=
  if tb d.ok = true then
    if d.newest.2 = 0 then LogState.bad 1
    else match d.parts d.newest.1.parts with
      | none => LogState.bad 2
      | some a =>
        if tb (d.lookB (segName d.newest.1.open_) = true ∧ Runs d.newest.1.first (frFrom (d.lookT (segName d.newest.1.open_)) 0).1) = true then
          ⟨0, d.newest.2, d.newest.1, (frFrom (d.lookT (segName d.newest.1.open_)) 0).2, tb ((frFrom (d.lookT (segName d.newest.1.open_)) 0).2 < (d.lookT (segName d.newest.1.open_)).size),
            d.newest.1.first + (frFrom (d.lookT (segName d.newest.1.open_)) 0).1.length, a ++ (frFrom (d.lookT (segName d.newest.1.open_)) 0).1⟩
        else LogState.bad 2
  else LogState.bad 7
end Go.Proofs.YtddjgbhkfdpffaaGreatDoor
