/-
  The numbers behind a word: the program.
-/
import Derived.Deep.Cut
import Derived.Test.YtddjgbhkfdpffaaGreatDoorWPlRR
import Derived.Test.YtddjgbhkfdpffaaGreatDoorWReadNum
set_option linter.unusedVariables false
set_option linter.unusedSimpArgs false
namespace Go.Proofs.YtddjgbhkfdpffaaGreatDoor
open Go.ChangeShapes Go.WideShapes Go.ChangeAt Go.RowKit

theorem cells_of_row {w : World} {g : Nat} {e : TypeId} {l : List ByteArray} (h : Row w g e (l.map fun x => .string x)) (i : Nat) (hi : i < l.length) : w.cell? ⟨g, i, none⟩ = some (.string l[i]) := by
  rw [h.cell]
  simp [hi]
theorem OwS.lower8 {α : Type} {w : World} {B B' : Nat} {e : TypeId} {k : Nat} {f : α → List D} {v : Value} {l : List α} {us : List Value} {fi : List Nat} (h : OwS w B e k f v l us fi) (hB : B' ≤ B) : OwS w B' e k f v l us fi :=
  ⟨⟨h.own.1, h.own.2.imp id (fun ⟨g, cap, cur, hv, hb, r⟩ => ⟨g, cap, cur, hv, Nat.le_trans hB hb, r⟩)⟩, h.cells, h.new.mono hB, h.out⟩
theorem piece_size (c : UInt8) (s : ByteArray) : ∀ x ∈ cutB c s, x.size ≤ s.size := by
  unfold cutB
  generalize Lib.countB s ⟨#[c]⟩ = k
  induction k generalizing s with
  | zero => intro x hx; simp [Lib.splitB] at hx; rw [hx]; exact Nat.le_refl _
  | succ k ih =>
    intro x hx
    unfold Lib.splitB at hx
    split at hx
    · simp at hx
      rw [hx]
      exact Nat.le_refl _
    · rcases List.mem_cons.1 hx with rfl | hx
      · rw [ByteArray.size_extract]
        omega
      · have := ih _ x hx
        rw [ByteArray.size_extract] at this
        omega
set_option maxRecDepth 100000 in
set_option maxHeartbeats 2000000 in
theorem numbersBehind_any (s word : ByteArray) (many : Nat) (w : World) (hs : s.size ≤ 1048576) (hw7 : 7 < w.heap.size) (hm : many ≤ 8) (hm1 : 1 ≤ many) (hl : Lay w) :
    Calls Tryz.prog 144 #[.string s, .string word, .int .i64 (many : Int)] w fun e w' => (∃ A n c us, e = .returned (.tuple #[.slice A n c, .bool (numsB word many s).isSome]) ∧ ∀ zs, numsB word many s = some zs → OwS w' w.heap.size 3 1 intC (.slice A n c) zs us []) ∧ Below w.heap.size w w' := by
  obtain ⟨ia, hia, ha0, ha1, ha2⟩ := info_parts8 info_int8
  have HIa := hide hia
  have HC := hide (split_any s 32 w hs hl)
  have HL := hide hl
  have hle := cutB_le 32 s
  have hpos : 0 < (cutB 32 s).length := by rw [cutB_len]; omega
  have HPS := hide (piece_size 32 s)
  have HNO := hide (fun (h : ¬ ((cutB 32 s)[0]? = some word ∧ (cutB 32 s).length = many + 1)) => show numsB word many s = none from by unfold numsB; rw [if_neg h])
  have HYES := hide (fun (h : (cutB 32 s)[0]? = some word ∧ (cutB 32 s).length = many + 1) => show numsB word many s = allNums ((cutB 32 s).drop 1) from by unfold numsB; rw [if_pos h])
  clear hia hl
  generalize cutB 32 s = ws at *
  go_enter Tryz.func144, Tryz.ntmps144
  go_wp2_with fail
  refine HC.out.mono ?_
  rintro e w2 ⟨g, rfl, hrow, hb2, hgz⟩
  have HROW := hide hrow
  have HB2 := hide hb2
  have HL2 := hide (HL.out.below hb2)
  have hgl := hrow.lt
  have hgw : w.heap.size ≤ g := Nat.le_of_eq hgz.symm
  have HNIL := hide (fun (W : World) (hb : Below w.heap.size w W) (h : numsB word many s = none) => show (∃ A n c us, (Ending.returned (.tuple #[.slice none 0 0, .bool false])) = .returned (.tuple #[.slice A n c, .bool (numsB word many s).isSome]) ∧ ∀ zs, numsB word many s = some zs → OwS W w.heap.size 3 1 intC (.slice A n c) zs us []) ∧ Below w.heap.size w W from
    ⟨⟨none, 0, 0, [], by rw [h]; rfl, fun zs hz => by rw [h] at hz; cases hz⟩, hb⟩)
  clear hrow hb2 HC hgz
  go_upto_region 2 with fail
  have HE := hide (OwS.empty8 w2 (g + 1) hgl 3 1 intC)
  have HB3 := hide (HB2.out.trans (((Below.refl w2.heap.size w2).alloc (Nat.le_refl _) (.cells #[] 3)).mono HB2.out.size))
  have HROW3 := hide (HROW.out.below ((Below.refl w2.heap.size w2).alloc (Nat.le_refl _) (.cells #[] 3)) HROW.out.lt)
  have HL3 := hide (HL2.out.below ((Below.refl w2.heap.size w2).alloc (Nat.le_refl _) (.cells #[] 3)))
  generalize w2.alloc _ = w3 at HE HB3 HROW3 HL3 ⊢
  generalize w2.heap.size = g9 at HE ⊢
  have c0 := cells_of_row HROW3.out 0 hpos
  have cl := HROW3.out.lt
  clear HROW HB2 HL2 hgl
  by_cases hw0 : ws[0] = word
  rotate_left
  · have HN := hide (HNO.out (fun h => hw0 (by have := h.1; rw [List.getElem?_eq_getElem hpos] at this; injection this)))
    obtain ⟨e1, e2⟩ := neL hw0
    clear hw0
    go_wp2
    go_ret2
    exact HNIL.out _ HB3.out HN.out
  by_cases hlen : ws.length = many + 1
  rotate_left
  · have HN := hide (HNO.out (fun h => hlen h.2))
    obtain ⟨e1, e2⟩ := eqL hw0
    have l1 : ¬ ((ws.length : Int) = (many : Int) + 1) := by omega
    have l2 : ((ws.length : Int) == (many : Int) + 1) = false := by simpa using l1
    have l3 : ((ws.length : Int) != (many : Int) + 1) = true := by simpa using l1
    clear hw0 hlen
    go_wp2
    go_ret2
    exact HNIL.out _ HB3.out HN.out
  have HY := hide (HYES.out ⟨by rw [List.getElem?_eq_getElem hpos, hw0], hlen⟩)
  obtain ⟨e1, e2⟩ := eqL hw0
  have HLEN := hide hlen
  have l1 : (ws.length : Int) - 1 = (many : Int) := by omega
  have l2 : ((ws.length : Int) == (many : Int) + 1) = true := by simp; omega
  have l3 : ((ws.length : Int) != (many : Int) + 1) = false := by simp; omega
  clear hw0 hlen HNO HYES
  go_wp2
  go_loopw [9, 32] (fun v i wr => ∃ (j : Nat) (zs : List Int) (A : Option Addr) (n c : Nat) (us : List Value), j ≤ many ∧ v = .slice A n c ∧ i = .int .i64 (j : Int) ∧ zs.length = j ∧ allNums ((ws.drop 1).take j) = some zs ∧ OwS wr (g + 1) 3 1 intC (.slice A n c) zs us [] ∧ Row wr g 9 (ws.map fun x => .string x) ∧ Lay wr ∧ Below w.heap.size w wr ∧ g + 1 ≤ wr.heap.size) (fun _ i _ => many - (intOf i).toNat)
  case atStart => exact ⟨0, [], _, _, _, _, Nat.zero_le _, rfl, rfl, rfl, rfl, HE.out, HROW3.out, HL3.out, HB3.out, cl⟩
  case round =>
    clear HE HROW3 HL3 HB3 c0 cl e1 e2 l2 l3
    obtain ⟨j, zs, A, n, c, us, hj, rfl, rfl, hzl, hall, hown, hrow, hlay, hbel, hgs⟩ := hrel
    obtain ⟨A', c', ef⟩ := hown.form
    injection ef with e1 e2 e3
    subst e1 e2 e3
    have HS := hide hown
    have HROW := hide hrow
    have HL := hide hlay
    have HB := hide hbel
    have HALL := hide hall
    have HZL := hide hzl
    have hzl' : zs.length ≤ 8 := by omega
    clear hown hrow hlay hbel hall hzl
    by_cases hlt : j < many
    rotate_left
    · obtain rfl : j = many := by omega
      have HF := hide (show numsB word j s = some zs from by
        have h := HALL.out
        rw [List.take_of_length_le (by rw [List.length_drop, HLEN.out]; omega)] at h
        rw [HY.out, h])
      go_wp2
      go_ret2
      exact ⟨⟨A, _, c, us, by rw [HF.out]; rfl, fun ys hy => by rw [HF.out] at hy; injection hy with hy; rw [← hy]; exact HS.out.lower8 (by omega)⟩, HB.out⟩
    have hji : 1 + j < ws.length := by have := HLEN.out; omega
    have c1 := cells_of_row HROW.out (1 + j) hji
    have cl := HROW.out.lt
    have hps := HPS.out ws[1 + j] (List.getElem_mem hji)
    have HRN := hide (readNum_any ws[1 + j] wr (by omega) HL.out)
    have HSTOP := hide (fun (h : numOf ws[1 + j] = none) => show numsB word many s = none from by
      rw [HY.out]
      exact allNums_stop _ j (by rw [List.length_drop]; omega) (by rw [List.getElem_drop]; exact h))
    have HSTEP := hide (fun z (h : numOf ws[1 + j] = some z) => allNums_step (ws.drop 1) j zs z (by rw [List.length_drop]; omega) HALL.out (by rw [List.getElem_drop]; exact h))
    generalize ws[1 + j] = x at *
    have hjI : (j : Int) < (many : Int) := by omega
    clear HALL
    go_wp2_with fail
    refine HRN.out.mono ?_
    rintro e w5 ⟨⟨n5, rfl, hn5, hnz⟩, hb5⟩
    have HB5 := hide (HB.out.trans (hb5.mono HB.out.size))
    have HL5 := hide (HL.out.below hb5)
    have HROW5 := hide (HROW.out.below hb5 HROW.out.lt)
    have HS5 := hide (HS.out.below (C := 0) hb5)
    have hgs5 := Nat.le_trans hgs hb5.size
    clear HRN hb5 HB HL HROW HS c1 cl
    cases hx : numOf x with
    | none =>
      have HN := hide (HSTOP.out hx)
      clear hx HSTOP HSTEP hnz
      go_wp2
      go_ret2
      exact HNIL.out _ HB5.out HN.out
    | some z =>
      have HST := hide (HSTEP.out z hx)
      obtain rfl : n5 = z := hnz z hx
      have HI := hide (fun W => int_src8 n5 (WalkArith.wf_i64 (by omega)) W)
      have HSA := hide (HS5.out.alloc (.cells #[.int .i64 n5] 3))
      clear hx HSTOP HSTEP hnz
      go_wp2_with (first | (at_builtin; refine wpl_app rfl _ _ 45 rfl ia _ 8 Tryz.underlying45 HIa.out ha0 ha1 ha2 rfl (by decide) intC_len rfl HSA.out [n5] (HI.out _) (by exact New.nil _ _) (fun g _ hg => by cases hg) _ 1 1 rfl rfl (SrcAt.new w5 _ _ _ _) (by omega) (by decide) (by rw [World.size_alloc]; omega) ?_; intro A7 n7 c7 w7 hn7 hown7 hgb7; have HG7 := hide hgb7; have HN7 := hide hown7; clear hown7 hgb7 hn7))
      have HB7 := hide (((Below.refl w5.heap.size w5).alloc (Nat.le_refl _) _).mono hgs5 |>.trans (HG7.out.toBelow (by rw [World.size_alloc]; omega) (fun g e => HSA.out.from e)))
      have hgs7 : g + 1 ≤ w7.heap.size := by have := HG7.out.grown.size; rw [World.size_alloc] at this; omega
      go_roundw
      case rel => exact ⟨j + 1, zs ++ [n5], A7, n7, c7, _, by omega, rfl, by go_num, by rw [List.length_append, HZL.out]; rfl, HST.out, HN7.out, HG7.out.row (HROW5.out.alloc _) (HSA.out.low (Nat.lt_succ_self _)), HL5.out.low HB7.out (by omega), HB5.out.trans (HB7.out.mono (by omega)), hgs7⟩
      case measure => simp [intOf]; omega
end Go.Proofs.YtddjgbhkfdpffaaGreatDoor
