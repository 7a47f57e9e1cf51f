/-
  Of a beginning of records' frames just those are read that are whole in it: the plain law.
-/
import Derived.Test.YtbjblchhenmgjaaDrawF
import Derived.Lib.Strings
set_option linter.unusedVariables false
set_option linter.unusedSimpArgs false
namespace Go.Proofs.Ytbjblchhenmgjaa
open Go.ChangeShapes Go.WideShapes Go.ChangeAt Go.RowKit

theorem bAt_list (d : ByteArray) (i : Nat) : bAt d i = (d.data.toList.getD i 0).toNat := by
  unfold bAt
  by_cases h : i < d.size
  · rw [dif_pos h]
    have h2 : i < d.data.toList.length := by rw [Array.length_toList]; exact h
    rw [List.getD_eq_getElem?_getD, List.getElem?_eq_getElem h2]
    rfl
  · rw [dif_neg h]
    have h2 : d.data.toList.length ≤ i := by rw [Array.length_toList]; exact Nat.le_of_not_lt h
    rw [List.getD_eq_getElem?_getD, List.getElem?_eq_none h2]
    rfl
def LogRecord.head (r : LogRecord) : List UInt8 := [(r.data.size : Int) / 256, (r.data.size : Int) % 256, r.pos / 65536, r.pos / 256 % 256, r.pos % 256].map fun n => UInt8.ofNat n.toNat
theorem bytes_list (r : LogRecord) : r.bytes.data.toList = r.head ++ r.data.data.toList := by
  unfold LogRecord.bytes LogRecord.head
  rw [ByteArray.data_append, Array.toList_append, strOfNums_data]
theorem catF_list (l : List LogRecord) : (catF l).data.toList = l.flatMap (fun r => r.frame.data.toList) := by
  have key : ∀ (l : List LogRecord) (o : ByteArray), (l.foldl (fun o r => o ++ r.frame) o).data.toList = o.data.toList ++ l.flatMap (fun r => r.frame.data.toList) := by
    intro l
    induction l with
    | nil => intro o; simp
    | cons x l ih =>
      intro o
      rw [List.foldl_cons, ih, ByteArray.data_append, Array.toList_append]
      simp
  have h := key l .empty
  unfold catF
  rw [h]
  rfl
/-- where the k-th record begins -/
noncomputable def endOf (l : List LogRecord) (k : Nat) : Nat := (catF (l.take k)).size
theorem endOf_len (l : List LogRecord) (k : Nat) : endOf l k = ((l.take k).flatMap (fun r => r.frame.data.toList)).length := by
  rw [← catF_list, Array.length_toList]
  rfl
theorem catF_len (l : List LogRecord) : (catF l).size = (l.flatMap (fun r => r.frame.data.toList)).length := by
  rw [← catF_list, Array.length_toList]
  rfl
theorem endOf_zero (l : List LogRecord) : endOf l 0 = 0 := by rw [endOf_len]; simp
theorem endOf_all (l : List LogRecord) : endOf l l.length = (catF l).size := by unfold endOf; rw [List.take_length]
theorem endOf_succ {l : List LogRecord} (hok : ∀ x ∈ l, x.ok) {k : Nat} (h : k < l.length) : endOf l (k + 1) = endOf l k + 5 + l[k].data.size := by
  have hx := hok _ (List.getElem_mem h)
  rw [endOf_len, endOf_len, List.take_succ_eq_append_getElem h, List.flatMap_append, List.length_append]
  simp only [List.flatMap_cons, List.flatMap_nil, List.append_nil]
  rw [frame_ok hx, Array.length_toList]
  have := bytes_size l[k]
  show _ + l[k].bytes.size = _
  omega
theorem catF_split {l : List LogRecord} {k : Nat} (h : k < l.length) (hok : ∀ x ∈ l, x.ok) : ∃ P R, (catF l).data.toList = P ++ (l[k].head ++ (l[k].data.data.toList ++ R)) ∧ P.length = endOf l k := by
  refine ⟨(l.take k).flatMap (fun r => r.frame.data.toList), (l.drop (k + 1)).flatMap (fun r => r.frame.data.toList), ?_, (endOf_len l k).symm⟩
  rw [catF_list]
  conv => lhs; rw [← List.take_append_drop k l, List.drop_eq_getElem_cons h]
  rw [List.flatMap_append, List.flatMap_cons, frame_ok (hok _ (List.getElem_mem h)), bytes_list, List.append_assoc]
theorem head_at {P H B R : List UInt8} (hH : H.length = 5) (cut : Nat) (hc : P.length + 5 ≤ cut) (j : Nat) (hj : j < 5) : ((P ++ (H ++ (B ++ R))).take cut).getD (P.length + j) 0 = H.getD j 0 := by
  rw [List.getD_eq_getElem?_getD, List.getD_eq_getElem?_getD, List.getElem?_take, if_pos (by omega), List.getElem?_append_right (by omega), Nat.add_sub_cancel_left, List.getElem?_append_left (by omega)]
theorem body_at {P H B R : List UInt8} (hH : H.length = 5) (cut : Nat) (hc : P.length + 5 + B.length ≤ cut) : (((P ++ (H ++ (B ++ R))).take cut).drop (P.length + 5)).take B.length = B := by
  rw [List.drop_take, List.drop_append, List.drop_eq_nil_of_le (by omega), List.nil_append, Nat.add_sub_cancel_left, ← hH, List.drop_left, List.take_take, Nat.min_eq_left (by omega), List.take_left]
theorem head_len (r : LogRecord) : r.head.length = 5 := rfl
section
variable {l : List LogRecord} {k cut : Nat}
theorem pre_list (d : ByteArray) (cut : Nat) : (d.extract 0 cut).data.toList = d.data.toList.take cut := by rw [Lib.extract_data]; simp
theorem fr_head (h : k < l.length) (hok : ∀ x ∈ l, x.ok) (hc : endOf l k + 5 ≤ cut) : frN ((catF l).extract 0 cut) (endOf l k) = l[k].data.size ∧ (frP ((catF l).extract 0 cut) (endOf l k) : Int) = l[k].pos := by
  obtain ⟨P, R, e, hP⟩ := catF_split h hok
  have hx := hok _ (List.getElem_mem h)
  obtain ⟨x1, x2, x3⟩ := hx
  have hb : ∀ j, j < 5 → bAt ((catF l).extract 0 cut) (endOf l k + j) = (l[k].head.getD j 0).toNat := fun j hj => by
    rw [bAt_list, pre_list, e, ← hP, head_at (head_len _) cut (by rw [hP]; exact hc) j hj]
  have h0 := hb 0 (by omega)
  have h1 := hb 1 (by omega)
  have h2 := hb 2 (by omega)
  have h3 := hb 3 (by omega)
  have h4 := hb 4 (by omega)
  rw [Nat.add_zero] at h0
  generalize l[k] = r at *
  have g0 : (r.head.getD 0 0).toNat = r.data.size / 256 := (u8_nat _ (by omega)).trans (by omega)
  have g1 : (r.head.getD 1 0).toNat = r.data.size % 256 := (u8_nat _ (by omega)).trans (by omega)
  have g2 : (r.head.getD 2 0).toNat = (r.pos / 65536).toNat := (u8_nat _ (by omega))
  have g3 : (r.head.getD 3 0).toNat = (r.pos / 256 % 256).toNat := (u8_nat _ (by omega))
  have g4 : (r.head.getD 4 0).toNat = (r.pos % 256).toNat := (u8_nat _ (by omega))
  unfold frN frP
  rw [h0, h1, h2, h3, h4, g0, g1, g2, g3, g4]
  constructor
  · omega
  · omega
theorem fr_body (h : k < l.length) (hok : ∀ x ∈ l, x.ok) (hc : endOf l (k + 1) ≤ cut) : frRec ((catF l).extract 0 cut) (endOf l k) = l[k] := by
  have hs := endOf_succ hok h
  obtain ⟨h1, h2⟩ := fr_head (cut := cut) h hok (by omega)
  obtain ⟨P, R, e, hP⟩ := catF_split h hok
  unfold frRec
  have hd : ((catF l).extract 0 cut).extract (endOf l k + 5) (endOf l k + 5 + frN ((catF l).extract 0 cut) (endOf l k)) = l[k].data := by
    have hl : l[k].data.data.toList.length = l[k].data.size := by rw [Array.length_toList]; rfl
    have h3 : (((catF l).extract 0 cut).extract (endOf l k + 5) (endOf l k + 5 + frN ((catF l).extract 0 cut) (endOf l k))).data.toList = l[k].data.data.toList := by
      rw [Lib.extract_data, pre_list, Nat.add_sub_cancel_left, h1, e, ← hP, ← hl]
      exact body_at (head_len _) cut (by rw [hP, hl]; omega)
    exact ByteArray.ext (Array.toList_inj.1 h3)
  rw [hd]
  cases hr : l[k] with
  | mk p d =>
    rw [hr] at h2
    simp only [LogRecord.mk.injEq, and_true]
    exact h2
theorem fr_ok (h : k < l.length) (hok : ∀ x ∈ l, x.ok) (hc : endOf l (k + 1) ≤ cut) (hcd : cut ≤ (catF l).size) : frOk ((catF l).extract 0 cut) (endOf l k) := by
  have hs := endOf_succ hok h
  obtain ⟨h1, h2⟩ := fr_head (cut := cut) h hok (by omega)
  obtain ⟨x1, x2, x3⟩ := hok _ (List.getElem_mem h)
  have hsz : ((catF l).extract 0 cut).size = cut := by rw [ByteArray.size_extract]; omega
  unfold frOk
  rw [h1, hsz]
  omega
theorem fr_to (hok : ∀ x ∈ l, x.ok) (hcd : cut ≤ (catF l).size) : ∀ k, k ≤ l.length → endOf l k ≤ cut → FrTo ((catF l).extract 0 cut) (endOf l k) (l.take k)
  | 0, _, _ => by rw [endOf_zero]; exact FrTo.zero _
  | k + 1, hk, hc => by
    have hs := endOf_succ hok (show k < l.length by omega)
    have ih := fr_to hok hcd k (by omega) (by omega)
    have h := ih.step (fr_ok (by omega) hok hc hcd)
    rw [fr_body (by omega) hok hc, (fr_head (cut := cut) (show k < l.length by omega) hok (by omega)).1, ← hs] at h
    rw [List.take_succ_eq_append_getElem (show k < l.length by omega)]
    exact h
/-- of a beginning just the whole records are read -/
theorem fr_prefix (hok : ∀ x ∈ l, x.ok) (hcd : cut ≤ (catF l).size) {n : Nat} (hn : n ≤ l.length) (hc : endOf l n ≤ cut) (hmax : n < l.length → cut < endOf l (n + 1)) : frFrom ((catF l).extract 0 cut) 0 = (l.take n, endOf l n) := by
  refine (fr_to hok hcd n hn hc).done (fun ho => ?_)
  have hsz : ((catF l).extract 0 cut).size = cut := by rw [ByteArray.size_extract]; omega
  obtain ⟨h5, _, _, _, hz⟩ := ho
  rw [hsz] at h5 hz
  by_cases hl : n < l.length
  · have hs := endOf_succ hok hl
    have hm := hmax hl
    rw [(fr_head hl hok h5).1] at hz
    omega
  · obtain rfl : n = l.length := by omega
    rw [endOf_all] at h5 hc
    omega
end
end Go.Proofs.Ytbjblchhenmgjaa
