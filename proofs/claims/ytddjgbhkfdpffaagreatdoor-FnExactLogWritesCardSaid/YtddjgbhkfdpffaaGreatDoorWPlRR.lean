/-
  Numbers read from a place on: the reference. What both sides of LogPlanRead hand back; a plan in a box of its own that grows.
-/
import Derived.Deep.Cut
import Derived.Test.YtddjgbhkfdpffaaGreatDoorWHLogState
import Derived.Test.YtddjgbhkfdpffaaGreatDoorWDiskW2
import Derived.Test.YtddjgbhkfdpffaaGreatDoorWPlR2
set_option linter.unusedVariables false
set_option linter.unusedSimpArgs false
namespace Go.Proofs.YtddjgbhkfdpffaaGreatDoor
open Go.ChangeShapes Go.WideShapes Go.ChangeAt Go.RowKit

theorem numK_stop (k : Nat) (acc : Int) (l : List UInt8) (h : ∀ b r, l = b :: r → ¬ (48 ≤ b.toNat ∧ b.toNat ≤ 57)) : numK k acc l = (acc, 0) := by
  cases k with
  | zero => rfl
  | succ k =>
    cases l with
    | nil => rfl
    | cons b r =>
      unfold numK
      rw [if_neg (h b r rfl)]
theorem numK_more (k : Nat) (acc : Int) (b : UInt8) (r : List UInt8) (h : 48 ≤ b.toNat ∧ b.toNat ≤ 57) : numK (k + 1) acc (b :: r) = ((numK k (acc * 10 + ((b.toNat : Int) - 48)) r).1, (numK k (acc * 10 + ((b.toNat : Int) - 48)) r).2 + 1) := by
  rw [numK, if_pos h]
theorem drop_at (s : ByteArray) (m : Nat) (h : m < s.size) : s.data.toList.drop m = s[m] :: s.data.toList.drop (m + 1) := by
  have h' : m < s.data.toList.length := by rw [← size_bytes]; exact h
  rw [List.drop_eq_getElem_cons h']
  congr 1
theorem drop_end (s : ByteArray) (m : Nat) (h : s.size ≤ m) : s.data.toList.drop m = [] := by
  apply List.drop_eq_nil_of_le
  rw [← size_bytes]
  exact h
theorem pow7_le (j : Nat) (h : j ≤ 7) : (10 : Int) ^ j ≤ 10000000 := by
  have : j = 0 ∨ j = 1 ∨ j = 2 ∨ j = 3 ∨ j = 4 ∨ j = 5 ∨ j = 6 ∨ j = 7 := by omega
  rcases this with rfl | rfl | rfl | rfl | rfl | rfl | rfl | rfl <;> decide
theorem u8_sub (z : Int) (h0 : 48 ≤ z) (h1 : z ≤ 57) : IntKind.u8.wrap (z - 48) = z - 48 := by
  have e : IntKind.u8.wrap (z - 48) = (z - 48) % 256 := rfl
  rw [e]
  omega
set_option maxRecDepth 100000 in
set_option maxHeartbeats 1000000 in
theorem l42Num_any (s : ByteArray) (a : Nat) (w : World) (hs : s.size ≤ 1048576) (ha : a ≤ 1048700) :
    Calls Tryz.prog 121 #[.string s, .int .i64 (a : Int)] w fun e w' => e = .returned (.tuple #[.int .i64 (numK 7 0 (s.data.toList.drop a)).1, .int .i64 ((a : Int) + ((numK 7 0 (s.data.toList.drop a)).2 : Int))]) ∧ w = w' := by
  go_enter Tryz.func121, Tryz.ntmps121
  go_wp2
  go_loop [1, 6, 7] (fun t n i => ∃ (j m : Nat) (acc : Int), j ≤ 7 ∧ m = a + j ∧ t = .int .i64 (m : Int) ∧ n = .int .i64 acc ∧ i = .int .i64 (j : Int) ∧ (0 ≤ acc ∧ acc + 1 ≤ 10 ^ j) ∧ (numK 7 0 (s.data.toList.drop a)).1 = (numK (7 - j) acc (s.data.toList.drop m)).1 ∧ (numK 7 0 (s.data.toList.drop a)).2 = (numK (7 - j) acc (s.data.toList.drop m)).2 + j) (fun _ _ i => 7 - (intOf i).toNat)
  case atStart => exact ⟨0, a, 0, by omega, rfl, rfl, rfl, rfl, ⟨by decide, by decide⟩, rfl, rfl⟩
  case round =>
    obtain ⟨j, m, acc, hj, hm, rfl, rfl, rfl, ⟨hc0, hc1⟩, h1, h2⟩ := hrel
    have hp := pow7_le j hj
    have HM := hide hm
    have H1 := hide h1
    have H2 := hide h2
    have HC := hide hc1
    have hacc : acc ≤ 10000000 := by omega
    have hmb : m ≤ 1048800 := by omega
    clear h1 h2 hc1 hp hm
    by_cases h7 : j < 7
    rotate_left
    · obtain rfl : j = 7 := by omega
      have e1 := H1.out
      have e2 := H2.out
      have eS : numK (7 - 7) acc (s.data.toList.drop m) = (acc, 0) := rfl
      rw [eS] at e1 e2
      have E1 := hide e1
      have E2 := hide (show (a : Int) + ((numK 7 0 (s.data.toList.drop a)).2 : Int) = (m : Int) from by rw [e2]; have := HM.out; simp only; omega)
      clear e1 e2 eS H1 H2
      go_wp2
      go_ret2
      exact ⟨by rw [E1.out, E2.out]; rfl, rfl⟩
    have hstop : ∀ (hn : ∀ b r, s.data.toList.drop m = b :: r → ¬ (48 ≤ b.toNat ∧ b.toNat ≤ 57)), (numK 7 0 (s.data.toList.drop a)).1 = acc ∧ (a : Int) + ((numK 7 0 (s.data.toList.drop a)).2 : Int) = (m : Int) := fun hn => by
      have e1 := H1.out
      have e2 := H2.out
      rw [numK_stop _ _ _ hn] at e1 e2
      exact ⟨e1, by rw [e2]; have := HM.out; simp only; omega⟩
    have d7 : decide ((j : Int) < 7) = true := by simp; omega
    by_cases hl : m < s.size
    rotate_left
    · obtain ⟨e1, e2⟩ := hstop (fun b r h => by rw [drop_end s m (by omega)] at h; cases h)
      have E1 := hide e1
      have E2 := hide e2
      clear e1 e2 hstop H1 H2
      go_wp2
      go_ret2
      exact ⟨by rw [E1.out, E2.out]; rfl, rfl⟩
    have hd := drop_at s m hl
    by_cases hlo : 48 ≤ (s[m].toNat : Int)
    rotate_left
    · obtain ⟨e1, e2⟩ := hstop (fun b r h => by
        rw [hd] at h
        injection h with h _
        subst h
        omega)
      have E1 := hide e1
      have E2 := hide e2
      clear e1 e2 hstop H1 H2 hd
      go_wp2
      go_ret2
      exact ⟨by rw [E1.out, E2.out]; rfl, rfl⟩
    by_cases hhi : (s[m].toNat : Int) ≤ 57
    rotate_left
    · obtain ⟨e1, e2⟩ := hstop (fun b r h => by
        rw [hd] at h
        injection h with h _
        subst h
        omega)
      have E1 := hide e1
      have E2 := hide e2
      clear e1 e2 hstop H1 H2 hd
      go_wp2
      go_ret2
      exact ⟨by rw [E1.out, E2.out]; rfl, rfl⟩
    have HS1 := hide (show (numK 7 0 (s.data.toList.drop a)).1 = (numK (7 - (j + 1)) (acc * 10 + ((s[m].toNat : Int) - 48)) (s.data.toList.drop (m + 1))).1 from by
      rw [H1.out, hd, show 7 - j = (7 - (j + 1)) + 1 by omega, numK_more _ _ _ _ ⟨by omega, by omega⟩])
    have HS2 := hide (show (numK 7 0 (s.data.toList.drop a)).2 = (numK (7 - (j + 1)) (acc * 10 + ((s[m].toNat : Int) - 48)) (s.data.toList.drop (m + 1))).2 + (j + 1) from by
      rw [H2.out, hd, show 7 - j = (7 - (j + 1)) + 1 by omega, numK_more _ _ _ _ ⟨by omega, by omega⟩]
      simp only
      omega)
    have hu := u8_sub (s[m].toNat : Int) hlo hhi
    have hx0 : 0 ≤ acc * 10 + ((s[m].toNat : Int) - 48) := by omega
    have hx1 : acc * 10 + ((s[m].toNat : Int) - 48) + 1 ≤ 10 ^ (j + 1) := by rw [Int.pow_succ]; have := HC.out; omega
    have k1 : wrap64 (acc * 10) = acc * 10 := by unfold wrap64; omega
    have k2 : wrap64 (acc * 10 + ((s[m].toNat : Int) - 48)) = acc * 10 + ((s[m].toNat : Int) - 48) := by unfold wrap64; omega
    have k3 : wrap64 ((s[m].toNat : Int) - 48) = (s[m].toNat : Int) - 48 := by unfold wrap64; omega
    have HX := hide (And.intro hx0 hx1)
    clear hstop H1 H2 hd hx0 hx1 HC
    go_wp2
    go_round
    case rel => exact ⟨j + 1, m + 1, _, by omega, by have := HM.out; omega, by go_num, rfl, by go_num, HX.out, HS1.out, HS2.out⟩
    case measure => simp [intOf]; omega
theorem numsK_next (n : Nat) (l : List UInt8) : numsK (n + 1) l = ((numK 7 0 l).1 :: (numsK n (l.drop ((numK 7 0 l).2 + 1))).1, (numK 7 0 l).2 + 1 + (numsK n (l.drop ((numK 7 0 l).2 + 1))).2) := rfl
theorem info_parts8 {P : Program} {t : TypeId} {z : Option Value} {s b : Nat} (h : (P.info? t).map (fun i => (i.zero, i.size, i.bytes)) = some (z, s, b)) : ∃ i, P.info? t = some i ∧ i.zero = z ∧ i.size = s ∧ i.bytes = b := by
  obtain ⟨i, hi, e⟩ := Option.map_eq_some_iff.1 h
  simp only [Prod.mk.injEq] at e
  exact ⟨i, hi, e.1, e.2.1, e.2.2⟩
theorem info_int8 : (Tryz.prog.info? 3).map (fun i => (i.zero, i.size, i.bytes)) = some (some (.int .i64 0), 1, 8) := by kernel_rfl
theorem int_src8 (z : Int) (hz : (Lit.int .i64 z).wf = true) (w : World) : OwC w ([z].flatMap intC) [.int .i64 z] [] := ⟨[], [], ⟨rfl, hz, rfl⟩, rfl, rfl⟩
theorem OwS.empty8 {α : Type} (w : World) (B : Nat) (hB : B ≤ w.heap.size) (e : TypeId) (k : Nat) (f : α → List D) : OwS (w.alloc (.cells #[] e)) B e k f (.slice (some ⟨w.heap.size, 0, none⟩) 0 0) [] [] [] :=
  ⟨⟨by simp, .inr ⟨w.heap.size, 0, #[], rfl, hB, Row.new w e [], Nat.le_refl _, by simp [maxLen], by simp, by simp⟩⟩, by simp [OwC], New.nil _ _, fun g _ h => by cases h⟩
set_option maxRecDepth 100000 in
set_option maxHeartbeats 1000000 in
theorem l42Nums_any (s : ByteArray) (a n : Nat) (w : World) (hs : s.size ≤ 1048576) (ha : a ≤ 1048600) (hn : n ≤ 4) :
    Calls Tryz.prog 122 #[.string s, .int .i64 (a : Int), .int .i64 (n : Int)] w fun e w' => ∃ A m c us, e = .returned (.tuple #[.slice A m c, .int .i64 ((a : Int) + ((numsK n (s.data.toList.drop a)).2 : Int))]) ∧ OwS w' w.heap.size 3 1 intC (.slice A m c) (numsK n (s.data.toList.drop a)).1 us [] ∧ Below w.heap.size w w' := by
  obtain ⟨ia, hia, ha0, ha1, ha2⟩ := info_parts8 info_int8
  have HIa := hide hia
  have HE := hide (OwS.empty8 w w.heap.size (Nat.le_refl _) 3 1 intC)
  have HB0 := hide (show Below w.heap.size w (w.alloc (.cells #[] 3)) from (Below.refl _ _).alloc (Nat.le_refl _) _)
  clear hia
  go_enter Tryz.func122, Tryz.ntmps122
  go_upto_region 2 with fail
  generalize w.alloc _ = w1 at HE HB0 ⊢
  go_wp2
  go_loopw [1, 8, 9] (fun t v i wr => ∃ (j m : Nat) (zs : List Int) (A : Option Addr) (k c : Nat) (us : List Value), j ≤ n ∧ m ≤ a + 8 * j ∧ t = .int .i64 (m : Int) ∧ v = .slice A k c ∧ i = .int .i64 (j : Int) ∧ zs.length = j ∧ (numsK n (s.data.toList.drop a)).1 = zs ++ (numsK (n - j) (s.data.toList.drop m)).1 ∧ a + (numsK n (s.data.toList.drop a)).2 = m + (numsK (n - j) (s.data.toList.drop m)).2 ∧ OwS wr w.heap.size 3 1 intC (.slice A k c) zs us [] ∧ Below w.heap.size w wr) (fun _ _ i _ => n - (intOf i).toNat)
  case atStart => exact ⟨0, a, [], _, _, _, _, Nat.zero_le _, by omega, rfl, rfl, rfl, rfl, rfl, rfl, HE.out, HB0.out⟩
  case round =>
    clear HE HB0
    obtain ⟨j, m, zs, A, k, c, us, hj, hm, rfl, rfl, rfl, hzl, h1, h2, hown, hbel⟩ := hrel
    have HS := hide hown
    have HB := hide hbel
    have H1 := hide h1
    have H2 := hide h2
    have hsz := hbel.size
    obtain ⟨A', c', ef⟩ := hown.form
    injection ef with e1 e2 e3
    subst e1 e2 e3
    have hzl' : zs.length ≤ 4 := by omega
    have HZL := hide hzl
    clear hown hbel h1 h2 hzl
    by_cases hlt : j < n
    · have hbd := num7_bd (s.data.toList.drop m)
      have hkk := (numK_le 7 0 (s.data.toList.drop m)).1
      have HC := hide (l42Num_any s m wr hs (by omega))
      have HN := numsK_next (n - (j + 1)) (s.data.toList.drop m)
      rw [show n - (j + 1) + 1 = n - j by omega, List.drop_drop] at HN
      have G1 := H1.out
      have G2 := H2.out
      rw [HN] at G1 G2
      have HG1 := hide G1
      have HG2 := hide G2
      have HI := hide (fun W => int_src8 (numK 7 0 (s.data.toList.drop m)).1 (WalkArith.wf_i64 (by omega)) W)
      clear G1 G2 HN H1 H2
      generalize hnk : (numK 7 0 (s.data.toList.drop m)).2 = kk at *
      generalize (numK 7 0 (s.data.toList.drop m)).1 = z at *
      have HSA := hide (HS.out.alloc (.cells #[.int .i64 z] 3))
      clear hnk
      go_wp2_with fail
      refine HC.out.mono ?_
      rintro e w2 ⟨rfl, rfl⟩
      clear HC
      go_wp2_with (first | (at_builtin; refine wpl_app rfl _ _ 45 rfl ia _ 8 Tryz.underlying45 HIa.out ha0 ha1 ha2 rfl (by decide) intC_len rfl HSA.out [z] (HI.out _) (by exact New.nil _ _) (fun g _ hg => by cases hg) _ 1 1 rfl rfl (SrcAt.new wr _ _ _ _) (by omega) (by decide) (by rw [World.size_alloc]; omega) ?_; intro A7 n7 c7 w7 hn7 hown7 hgb7; have HG7 := hide hgb7; have HN7 := hide hown7; clear hown7 hgb7 hn7))
      have HB7 := hide (((Below.refl wr.heap.size wr).alloc (Nat.le_refl _) _).mono hsz |>.trans (HG7.out.toBelow (by rw [World.size_alloc]; omega) (fun g e => HSA.out.from e)))
      go_roundw
      case rel => exact ⟨j + 1, m + kk + 1, zs ++ [z], A7, n7, c7, _, by omega, by omega, by go_num, rfl, by go_num, by rw [List.length_append, HZL.out]; rfl, by rw [HG1.out]; simp [Nat.add_assoc], by rw [HG2.out]; simp only [Nat.add_assoc], HN7.out, HB.out.trans HB7.out⟩
      case measure => simp [intOf]; omega
    · obtain rfl : j = n := by omega
      have G1 := H1.out
      have G2 := H2.out
      rw [Nat.sub_self] at G1 G2
      have HG1 := hide (show (numsK j (s.data.toList.drop a)).1 = zs from by rw [G1]; exact List.append_nil _)
      have HG2 := hide (show (a : Int) + ((numsK j (s.data.toList.drop a)).2 : Int) = (m : Int) from by rw [show (numsK 0 (s.data.toList.drop m)).2 = 0 from rfl] at G2; omega)
      clear G1 G2 H1 H2
      go_wp2
      go_ret2
      refine ⟨A, _, c, us, by rw [HG2.out]; rfl, by rw [HG1.out]; exact HS.out, HB.out⟩
end Go.Proofs.YtddjgbhkfdpffaaGreatDoor
set_option linter.unusedVariables false
set_option linter.unusedSimpArgs false
namespace Go.Proofs.YtddjgbhkfdpffaaGreatDoor
open Go.ChangeShapes Go.WideShapes Go.ChangeAt Go.RowKit

def PlanRet (s : ByteArray) (w : World) (e : Ending) (w' : World) : Prop :=
  ∃ us fq, e = .returned (.tuple #[.agg us.toArray, .bool (readPB s)]) ∧ OwC w' (readP s).cells us fq ∧ New w' fq w.heap.size ∧ Below w.heap.size w w'
theorem pr_none {s : ByteArray} {w W : World} (h : readP s = LogPlan.zero ∧ readPB s = false) (hg : Below w.heap.size w W) : PlanRet s w (.returned (.tuple #[.agg ([.slice none 0 0, .int .i64 0, .int .i64 0] : List Value).toArray, .bool false])) W := by
  unfold PlanRet
  rw [h.1, h.2]
  exact ⟨_, [], rfl, OwC.mLogPlan (x := LogPlan.zero) (Ow.nil_ _ _ _) (by decide) (by decide), New.nil _ _, hg⟩
theorem pr_some {s : ByteArray} {w W : World} {q : LogPlan} {us : List Value} {fq : List Nat} (h : readP s = q ∧ readPB s = true) (ho : OwC W q.cells us fq) (hn : New W fq w.heap.size) (hg : Below w.heap.size w W) : PlanRet s w (.returned (.tuple #[.agg us.toArray, .bool true])) W := by
  unfold PlanRet
  rw [h.1, h.2]
  exact ⟨us, fq, rfl, ho, hn, hg⟩
theorem eqL {a b : ByteArray} (h : a = b) : a.toList = b.toList ∧ (a.toList == b.toList) = true := by
  subst h
  exact ⟨rfl, by simp⟩
theorem neL {a b : ByteArray} (h : ¬ a = b) : ¬ (a.toList = b.toList) ∧ (a.toList == b.toList) = false := by
  have h1 : ¬ (a.toList = b.toList) := fun e => h (bytes_inj (by rw [Lib.toList_data, Lib.toList_data] at e; exact e))
  exact ⟨h1, by simpa using h1⟩
theorem info_part : (Tryz.prog.info? 75).map (fun i => (i.zero, i.size, i.bytes)) = some (some (.agg #[.int .i64 0, .int .i64 0, .int .i64 0, .int .i64 0]), 4, 32) := by kernel_rfl
def partRow (x : LogPart) : List Value := [.int .i64 x.num, .int .i64 x.first, .int .i64 x.next, .int .i64 x.size]
theorem part_src (x : LogPart) (w0 : (Lit.int .i64 x.num).wf = true) (w1 : (Lit.int .i64 x.first).wf = true) (w2 : (Lit.int .i64 x.next).wf = true) (w3 : (Lit.int .i64 x.size).wf = true) (w : World) : OwC w ([x].flatMap LogPart.cells) (partRow x) [] := by
  have h : OwC w x.cells (partRow x) [] := OwC.mLogPart w0 w1 w2 w3
  simpa using h
/-- a slice of numbers of one's own: where they lie -/
theorem ints_cells {w : World} {B : Nat} {e : TypeId} {l : List Int} {us : List Value} {A : Option Addr} {n c : Nat} (h : OwS w B e 1 intC (.slice A n c) l us []) (h0 : 0 < l.length) :
    ∃ g, A = some ⟨g, 0, none⟩ ∧ n = l.length ∧ l.length ≤ c ∧ B ≤ g ∧ g < w.heap.size ∧ ∀ (j : Nat) x, l[j]? = some x → w.cell? ⟨g, j, none⟩ = some (.int .i64 x) := by
  obtain ⟨fp, ho, _⟩ := h.toOw
  obtain ⟨A', c', e0⟩ := h.form
  injection e0 with e1 e2 e3
  subst e1 e2 e3
  obtain ⟨_, hc, _⟩ := ho.nlen
  rcases h.own.2 with ⟨ev, _⟩ | ⟨g, cap, cur, ev, hB, hg, _⟩
  · simp only [Value.slice.injEq] at ev
    omega
  · simp only [Value.slice.injEq] at ev
    obtain ⟨rfl, -, rfl⟩ := ev
    refine ⟨g, rfl, rfl, hc, hB, Row.lt (w := w) (g := g) (e := e) (cs := cur.toList) (by simpa [Row] using hg), fun j x hj => ?_⟩
    have hjl : j < l.length := (List.getElem?_eq_some_iff.1 hj).1
    obtain ⟨g', off, ew, _, hcell, _⟩ := ints_at ho hjl
    simp only [Option.some.injEq, Addr.mk.injEq] at ew
    obtain ⟨rfl, rfl, -⟩ := ew
    have e2 : l[j]? = some l[j] := List.getElem?_eq_getElem hjl
    rw [e2] at hj
    injection hj with hj
    rw [← hj]
    simpa using hcell
theorem four_of {l : List Int} (h : l.length = 4) : l = [l.getD 0 0, l.getD 1 0, l.getD 2 0, l.getD 3 0] := by
  match l, h with
  | [a, b, c, d], _ => rfl
theorem two_of {l : List Int} (h : l.length = 2) : l = [l.getD 0 0, l.getD 1 0] := by
  match l, h with
  | [a, b], _ => rfl
theorem wf_small (z : Int) (h : 0 ≤ z ∧ z ≤ 9999999) : (Lit.int .i64 z).wf = true := WalkArith.wf_i64 (by omega)
theorem mem_getD (l : List Int) (i : Nat) (h : ∀ z ∈ l, 0 ≤ z ∧ z ≤ 9999999) : 0 ≤ l.getD i 0 ∧ l.getD i 0 ≤ 9999999 := by
  rw [List.getD_eq_getElem?_getD]
  cases hq : l[i]? with
  | none => decide
  | some z => exact h z (List.mem_of_getElem? hq)
/-- a plan in the box b, its parts in a slice of its own from B on -/
structure PBox (w : World) (b B : Nat) (ps : List LogPart) (op fi : Int) (A : Option Addr) (n c : Nat) (us : List Value) : Prop where
  box : Row w b 30 [.slice A n c, .int .i64 op, .int .i64 fi]
  own : OwS w B 75 4 LogPart.cells (.slice A n c) ps us []
  lt : b < B
theorem PBox.below {w w' : World} {b B : Nat} {ps : List LogPart} {op fi : Int} {A : Option Addr} {n c : Nat} {us : List Value} (h : PBox w b B ps op fi A n c us) (hb : Below w.heap.size w w') : PBox w' b B ps op fi A n c us :=
  ⟨h.box.below hb h.box.lt, h.own.below (C := 0) hb, h.lt⟩
theorem PBox.len {w : World} {b B : Nat} {ps : List LogPart} {op fi : Int} {A : Option Addr} {n c : Nat} {us : List Value} (h : PBox w b B ps op fi A n c us) : n = ps.length := by
  obtain ⟨A', c', e⟩ := h.own.form
  injection e
/-- what it reads as -/
theorem PBox.ow {w : World} {b B : Nat} {ps : List LogPart} {op fi : Int} {A : Option Addr} {n c : Nat} {us : List Value} (h : PBox w b B ps op fi A n c us) (h0 : (Lit.int .i64 op).wf = true) (h1 : (Lit.int .i64 fi).wf = true) :
    ∃ fq, OwC w (⟨ps, op, fi⟩ : LogPlan).cells [.slice A n c, .int .i64 op, .int .i64 fi] fq ∧ New w fq B := by
  obtain ⟨fq, ho, hn⟩ := h.own.toOw
  obtain ⟨A', c', e⟩ := h.own.form
  injection e with e1 e2 e3
  subst e1 e2 e3
  exact ⟨fq, OwC.mLogPlan (x := ⟨ps, op, fi⟩) ho h0 h1, hn⟩
theorem PBox.put {w : World} {b B : Nat} {ps : List LogPart} {op fi : Int} {A : Option Addr} {n c : Nat} {us : List Value} (h : PBox w b B ps op fi A n c us) (x y : Int) :
    PBox ((w.setCell ⟨b, 1, none⟩ (.int .i64 x)).setCell ⟨b, 2, none⟩ (.int .i64 y)) b B ps x y A n c us :=
  ⟨by simpa using (h.box.set 1 (.int .i64 x)).set 2 (.int .i64 y), (h.own.setCell (by simp) (h.own.low h.lt) _).setCell (by simp) (h.own.low h.lt) _, h.lt⟩
theorem PBox.app {w w7 : World} {b B : Nat} {ps : List LogPart} {op fi : Int} {A A7 : Option Addr} {n c n7 c7 : Nat} {us us7 : List Value} {x : LogPart} {o : Obj} (h : PBox w b B ps op fi A n c us) (hgb : GB (w.alloc o) w7 (.slice A n c) (.slice A7 n7 c7))
    (hown : OwS w7 B 75 4 LogPart.cells (.slice A7 n7 c7) (ps ++ [x]) us7 []) : PBox (w7.setCell ⟨b, 0, none⟩ (.slice A7 n7 c7)) b B (ps ++ [x]) op fi A7 n7 c7 us7 :=
  ⟨by simpa using (hgb.row (h.box.alloc o) (h.own.low h.lt)).set 0 (.slice A7 n7 c7), hown.setCell (by simp) (hown.low h.lt) _, h.lt⟩
theorem cell_set {w : World} {g i b j : Nat} {u v : Value} (h : w.cell? ⟨g, i, none⟩ = some v) (hg : g ≠ b) : (w.setCell ⟨b, j, none⟩ u).cell? ⟨g, i, none⟩ = some v := (World.cell?_of_block (a := ⟨g, i, none⟩) (Below.heap_setCell w ⟨b, j, none⟩ u g hg)).trans h
theorem cell_gb {w w1 : World} {v v1 x : Value} {g i : Nat} (h : GB w w1 v v1) (hc : w.cell? ⟨g, i, none⟩ = some x) (hn : v.ownBlock ≠ some g) : w1.cell? ⟨g, i, none⟩ = some x := (World.cell?_of_block (a := ⟨g, i, none⟩) (h.grown.block g (cell_lt hc) hn.symm)).trans hc
theorem below_put {w0 w : World} {b B : Nat} (h : Below B w0 w) (hb : B ≤ b) (u v : Value) : Below B w0 ((w.setCell ⟨b, 1, none⟩ u).setCell ⟨b, 2, none⟩ v) := (h.setCell (p := ⟨b, 1, none⟩) hb u).setCell (p := ⟨b, 2, none⟩) hb v
end Go.Proofs.YtddjgbhkfdpffaaGreatDoor
