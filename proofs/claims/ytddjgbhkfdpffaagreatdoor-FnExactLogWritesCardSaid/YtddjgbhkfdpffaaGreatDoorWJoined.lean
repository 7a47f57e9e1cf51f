/-
  strconv.Itoa, the table that it reads being laid. A word with numbers behind it: the program's joined.
-/
import Derived.Lib.AppendIntMem
import Derived.WalkSmall
import Derived.Test.YtddjgbhkfdpffaaGreatDoorWShelf
import Derived.Test.YtddjgbhkfdpffaaGreatDoorWPlanT
import Derived.Test.YtddjgbhkfdpffaaGreatDoorWBld
set_option linter.unusedVariables false
set_option linter.unusedSimpArgs false
namespace Go.Proofs.YtddjgbhkfdpffaaGreatDoor
open Go.ChangeShapes Go.WideShapes Go.ChangeAt Go.RowKit

/-- the library's table of powers of ten lies in this world -/
def Tab (w : World) : Prop := Lib.TabIs Tryz.prog w "internal/strconv.uint64pow10" .u64 Lib.pow10Tab
theorem tab_global : Tryz.prog.globalNamed "internal/strconv.uint64pow10" = some 0 := by kernel_rfl
theorem Tab.lt {w : World} (h : Tab w) : 0 < w.heap.size := by
  unfold Tab Lib.TabIs World.var? at h
  rw [tab_global] at h
  refine Classical.byContradiction fun hn => ?_
  have e : w.heap[0]? = none := Array.getElem?_eq_none (by omega)
  simp [e] at h
theorem Tab.below {w w' : World} (h : Tab w) (hb : Below w.heap.size w w') : Tab w' := var?_below hb tab_global h.lt h
theorem Tab.low {B : Nat} {w w' : World} (h : Tab w) (hb : Below B w w') (hB : 0 < B) : Tab w' := var?_below hb tab_global hB h
theorem itoa_any (n : Int) (h0 : -9223372036854775808 ≤ n) (h1 : n ≤ 9223372036854775807) (w : World) (ht : Tab w) :
    Calls Tryz.prog 130 #[.int .i64 n] w fun e w' => e = .returned (.string (dec n)) ∧ Below w.heap.size w w' := by
  refine (Tryz.strconv_Itoa n h0 h1 w ht).mono ?_
  rintro e w' ⟨rfl, k, os, rfl⟩
  exact ⟨rfl, Lib.below_grow _ _ (Nat.le_refl _) _ _⟩
end Go.Proofs.YtddjgbhkfdpffaaGreatDoor
set_option linter.unusedVariables false
set_option linter.unusedSimpArgs false
namespace Go.Proofs.YtddjgbhkfdpffaaGreatDoor
open Go.ChangeShapes Go.WideShapes Go.ChangeAt Go.RowKit

theorem Bld.below {b : Nat} {w w' : World} {s : ByteArray} (h : Bld w b s) (hb : Below w.heap.size w w') : Bld w' b s := by
  have hlt := h.lt
  refine h.elim (fun x => .inl ?_) (fun x => .inr ?_)
  · obtain ⟨hB, v, hv, hown, hne⟩ := x
    exact ⟨hB, v, (hb.block b hlt).trans hv, hown.kept (row := none) ⟨hb.os, hb.tape, hb.output, hb.size, fun k hk _ => hb.block k hk⟩ (Classical.em _), hne⟩
  · obtain ⟨hB, v, hv, hown, hne⟩ := x
    exact ⟨hB, v, (hb.block b hlt).trans hv, hown.kept (row := none) ⟨hb.os, hb.tape, hb.output, hb.size, fun k hk _ => hb.block k hk⟩ (Classical.em _), hne⟩
theorem nums_row (w : World) : ∀ (l : List Int), (∀ z ∈ l, (Lit.int .i64 z).wf = true) → OwC w (l.flatMap intC) (l.map fun z => .int .i64 z) []
  | [], _ => by simp [OwC]
  | z :: l, h => ⟨[], [], ⟨rfl, h z (by simp), rfl⟩, nums_row w l (fun y hy => h y (by simp [hy])), rfl⟩
/-- a row of numbers that is known whole, as a slice -/
theorem nums_ow {w : World} {g : Nat} {e : TypeId} (l : List Int) (hr : Row w g e (l.map fun z => .int .i64 z)) (hw : ∀ z ∈ l, (Lit.int .i64 z).wf = true) (h0 : 0 < l.length) (h2 : l.length ≤ maxLen) :
    Ow w (.s 1 l.length (l.flatMap intC)) (.slice (some ⟨g, 0, none⟩) l.length l.length) [g] := by
  unfold Ow
  refine ⟨flat_len intC 1 intC_len l, _, l.length, rfl, Nat.le_refl _, h2, .inr ⟨h0, g, 0, [], rfl, ?_, rfl⟩⟩
  refine OwC.row _ (nums_row w l hw) (fun j u hj => ?_)
  rw [Nat.zero_add, hr.cell]
  exact hj
set_option maxRecDepth 100000 in
set_option maxHeartbeats 2000000 in
theorem joined_any (word : ByteArray) (l : List Int) (A : Option Addr) (n c : Nat) (fp : List Nat) (w : World) (ho : Ow w (.s 1 l.length (l.flatMap intC)) (.slice A n c) fp) (hf : Lt fp w.heap.size) (ht : Tab w)
    (hw : word.size ≤ 100) (hl : l.length ≤ 8) : Calls Tryz.prog 154 #[.string word, .slice A n c] w fun e w' => e = .returned (.string (joinedText word l)) ∧ Below w.heap.size w w' := by
  obtain ⟨rfl, hc, hm⟩ := ho.nlen
  have HO := hide ho
  have HF := hide hf
  have HT := hide ht
  have HB0 := hide (Below.refl w.heap.size w)
  have s1 : (ByteArray.mk #[32]).size = 1 := rfl
  have HBD : ∀ i (h : i < l.length), -9223372036854775808 ≤ l[i] ∧ l[i] ≤ 9223372036854775807 := fun i h => by
    obtain ⟨g, off, _, _, _, hwf⟩ := ints_at ho h
    have h2 : IntKind.i64.min ≤ l[i] ∧ l[i] ≤ 9223372036854775807 := by simpa [Lit.wf] using hwf
    have h3 : IntKind.i64.min = -9223372036854775808 := by decide
    omega
  have HBD := hide HBD
  clear ho
  go_enter Tryz.func154, Tryz.ntmps154
  go_wp2
  go_loopw [0, 9] (fun s i wr => ∃ j : Nat, i = .int .i64 (j : Int) ∧ j ≤ l.length ∧ s = .string (joinedText word (l.take j)) ∧ Below w.heap.size w wr) (fun _ i _ => l.length - (intOf i).toNat)
  case atStart => exact ⟨0, rfl, Nat.zero_le _, rfl, HB0.out⟩
  case round =>
    obtain ⟨j, rfl, hj, rfl, hb⟩ := hrel
    have HB := hide hb
    clear hb
    by_cases hlt : j < l.length
    · have hltI : (j : Int) < (l.length : Int) := by omega
      have hj0 : (0 : Int) ≤ (j : Int) := by omega
      obtain ⟨g, off, rfl, hg, hcell, hwf⟩ := ints_at (HO.out.below HB.out HF.out) hlt
      have hgl := (HF.out.up HB.out) g hg
      have hsz := joinedText_size (l.take j) word (fun n hn => by
        obtain ⟨i, hi, rfl⟩ := List.getElem_of_mem hn
        rw [List.getElem_take]
        exact HBD.out i (by rw [List.length_take] at hi; omega))
      rw [List.length_take] at hsz
      have hyb := HBD.out j hlt
      have HS := hide (joinedText_snoc word l j hlt)
      have hds := dec_size l[j] hyb.1 hyb.2
      generalize l[j] = y at *
      have HIT := hide (fun (W : World) (hb : Below w.heap.size w W) => itoa_any y hyb.1 hyb.2 W (HT.out.below hb))
      go_wp2_with fail
      refine (HIT.out _ HB.out).mono ?_
      rintro e w2 ⟨rfl, hb2⟩
      have HB2 := hide (HB.out.trans (hb2.mono HB.out.size))
      clear hb2
      go_wp2
      go_roundw
      case rel => exact ⟨j + 1, by go_num, by omega, by rw [HS.out], HB2.out⟩
      case measure => simp [intOf]; omega
    · obtain rfl : j = l.length := by omega
      go_wp2
      go_ret
      exact ⟨ret_str (by rw [List.take_length]), HB.out⟩
end Go.Proofs.YtddjgbhkfdpffaaGreatDoor
