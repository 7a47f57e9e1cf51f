/-
  Numbers read from a place on: the reference.
-/
import Derived.Test.YtknlnndocamcmaaDoorPlR2
import Derived.Test.YtknlnndocamcmaaDoorTwo
import Derived.Deep.Cut
set_option linter.unusedVariables false
set_option linter.unusedSimpArgs false
namespace Go.Proofs.YtknlnndocamcmaaDoor
open Go.ChangeShapes Go.WideShapes Go.ChangeAt Go.RowKit

theorem numK_stop (k : Nat) (acc : Int) (l : List UInt8) (h : ∀ b r, l = b :: r → ¬ (48 ≤ b.toNat ∧ b.toNat ≤ 57)) : numK k acc l = (acc, 0) := by
  cases k with
  | zero => rfl
  | succ k =>
    cases l with
    | nil => rfl
    | cons b r =>
      unfold numK
      rw [if_neg (h b r rfl)]
theorem numK_more (k : Nat) (acc : Int) (b : UInt8) (r : List UInt8) (h : 48 ≤ b.toNat ∧ b.toNat ≤ 57) : numK (k + 1) acc (b :: r) = ((numK k (acc * 10 + ((b.toNat : Int) - 48)) r).1, (numK k (acc * 10 + ((b.toNat : Int) - 48)) r).2 + 1) := by
  rw [numK, if_pos h]
theorem drop_at (s : ByteArray) (m : Nat) (h : m < s.size) : s.data.toList.drop m = s[m] :: s.data.toList.drop (m + 1) := by
  have h' : m < s.data.toList.length := by rw [← size_bytes]; exact h
  rw [List.drop_eq_getElem_cons h']
  congr 1
theorem drop_end (s : ByteArray) (m : Nat) (h : s.size ≤ m) : s.data.toList.drop m = [] := by
  apply List.drop_eq_nil_of_le
  rw [← size_bytes]
  exact h
theorem pow7_le (j : Nat) (h : j ≤ 7) : (10 : Int) ^ j ≤ 10000000 := by
  have : j = 0 ∨ j = 1 ∨ j = 2 ∨ j = 3 ∨ j = 4 ∨ j = 5 ∨ j = 6 ∨ j = 7 := by omega
  rcases this with rfl | rfl | rfl | rfl | rfl | rfl | rfl | rfl <;> decide
theorem u8_sub (z : Int) (h0 : 48 ≤ z) (h1 : z ≤ 57) : IntKind.u8.wrap (z - 48) = z - 48 := by
  have e : IntKind.u8.wrap (z - 48) = (z - 48) % 256 := rfl
  rw [e]
  omega
set_option maxRecDepth 100000 in
set_option maxHeartbeats 1000000 in
theorem l42Num_any (s : ByteArray) (a : Nat) (w : World) (hs : s.size ≤ 1048576) (ha : a ≤ 1048700) :
    Calls Tryd.prog 45 #[.string s, .int .i64 (a : Int)] w fun e w' => e = .returned (.tuple #[.int .i64 (numK 7 0 (s.data.toList.drop a)).1, .int .i64 ((a : Int) + ((numK 7 0 (s.data.toList.drop a)).2 : Int))]) ∧ w = w' := by
  go_enter Tryd.func45, Tryd.ntmps45
  go_wp2
  go_loop [1, 6, 7] (fun t n i => ∃ (j m : Nat) (acc : Int), j ≤ 7 ∧ m = a + j ∧ t = .int .i64 (m : Int) ∧ n = .int .i64 acc ∧ i = .int .i64 (j : Int) ∧ (0 ≤ acc ∧ acc + 1 ≤ 10 ^ j) ∧ (numK 7 0 (s.data.toList.drop a)).1 = (numK (7 - j) acc (s.data.toList.drop m)).1 ∧ (numK 7 0 (s.data.toList.drop a)).2 = (numK (7 - j) acc (s.data.toList.drop m)).2 + j) (fun _ _ i => 7 - (intOf i).toNat)
  case atStart => exact ⟨0, a, 0, by omega, rfl, rfl, rfl, rfl, ⟨by decide, by decide⟩, rfl, rfl⟩
  case round =>
    obtain ⟨j, m, acc, hj, hm, rfl, rfl, rfl, ⟨hc0, hc1⟩, h1, h2⟩ := hrel
    have hp := pow7_le j hj
    have HM := hide hm
    have H1 := hide h1
    have H2 := hide h2
    have HC := hide hc1
    have hacc : acc ≤ 10000000 := by omega
    have hmb : m ≤ 1048800 := by omega
    clear h1 h2 hc1 hp hm
    by_cases h7 : j < 7
    rotate_left
    · obtain rfl : j = 7 := by omega
      have e1 := H1.out
      have e2 := H2.out
      have eS : numK (7 - 7) acc (s.data.toList.drop m) = (acc, 0) := rfl
      rw [eS] at e1 e2
      have E1 := hide e1
      have E2 := hide (show (a : Int) + ((numK 7 0 (s.data.toList.drop a)).2 : Int) = (m : Int) from by rw [e2]; have := HM.out; simp only; omega)
      clear e1 e2 eS H1 H2
      go_wp2
      go_ret2
      exact ⟨by rw [E1.out, E2.out]; rfl, rfl⟩
    have hstop : ∀ (hn : ∀ b r, s.data.toList.drop m = b :: r → ¬ (48 ≤ b.toNat ∧ b.toNat ≤ 57)), (numK 7 0 (s.data.toList.drop a)).1 = acc ∧ (a : Int) + ((numK 7 0 (s.data.toList.drop a)).2 : Int) = (m : Int) := fun hn => by
      have e1 := H1.out
      have e2 := H2.out
      rw [numK_stop _ _ _ hn] at e1 e2
      exact ⟨e1, by rw [e2]; have := HM.out; simp only; omega⟩
    have d7 : decide ((j : Int) < 7) = true := by simp; omega
    by_cases hl : m < s.size
    rotate_left
    · obtain ⟨e1, e2⟩ := hstop (fun b r h => by rw [drop_end s m (by omega)] at h; cases h)
      have E1 := hide e1
      have E2 := hide e2
      clear e1 e2 hstop H1 H2
      go_wp2
      go_ret2
      exact ⟨by rw [E1.out, E2.out]; rfl, rfl⟩
    have hd := drop_at s m hl
    by_cases hlo : 48 ≤ (s[m].toNat : Int)
    rotate_left
    · obtain ⟨e1, e2⟩ := hstop (fun b r h => by
        rw [hd] at h
        injection h with h _
        subst h
        omega)
      have E1 := hide e1
      have E2 := hide e2
      clear e1 e2 hstop H1 H2 hd
      go_wp2
      go_ret2
      exact ⟨by rw [E1.out, E2.out]; rfl, rfl⟩
    by_cases hhi : (s[m].toNat : Int) ≤ 57
    rotate_left
    · obtain ⟨e1, e2⟩ := hstop (fun b r h => by
        rw [hd] at h
        injection h with h _
        subst h
        omega)
      have E1 := hide e1
      have E2 := hide e2
      clear e1 e2 hstop H1 H2 hd
      go_wp2
      go_ret2
      exact ⟨by rw [E1.out, E2.out]; rfl, rfl⟩
    have HS1 := hide (show (numK 7 0 (s.data.toList.drop a)).1 = (numK (7 - (j + 1)) (acc * 10 + ((s[m].toNat : Int) - 48)) (s.data.toList.drop (m + 1))).1 from by
      rw [H1.out, hd, show 7 - j = (7 - (j + 1)) + 1 by omega, numK_more _ _ _ _ ⟨by omega, by omega⟩])
    have HS2 := hide (show (numK 7 0 (s.data.toList.drop a)).2 = (numK (7 - (j + 1)) (acc * 10 + ((s[m].toNat : Int) - 48)) (s.data.toList.drop (m + 1))).2 + (j + 1) from by
      rw [H2.out, hd, show 7 - j = (7 - (j + 1)) + 1 by omega, numK_more _ _ _ _ ⟨by omega, by omega⟩]
      simp only
      omega)
    have hu := u8_sub (s[m].toNat : Int) hlo hhi
    have hx0 : 0 ≤ acc * 10 + ((s[m].toNat : Int) - 48) := by omega
    have hx1 : acc * 10 + ((s[m].toNat : Int) - 48) + 1 ≤ 10 ^ (j + 1) := by rw [Int.pow_succ]; have := HC.out; omega
    have k1 : wrap64 (acc * 10) = acc * 10 := by unfold wrap64; omega
    have k2 : wrap64 (acc * 10 + ((s[m].toNat : Int) - 48)) = acc * 10 + ((s[m].toNat : Int) - 48) := by unfold wrap64; omega
    have k3 : wrap64 ((s[m].toNat : Int) - 48) = (s[m].toNat : Int) - 48 := by unfold wrap64; omega
    have HX := hide (And.intro hx0 hx1)
    clear hstop H1 H2 hd hx0 hx1 HC
    go_wp2
    go_round
    case rel => exact ⟨j + 1, m + 1, _, by omega, by have := HM.out; omega, by go_num, rfl, by go_num, HX.out, HS1.out, HS2.out⟩
    case measure => simp [intOf]; omega
theorem numsK_next (n : Nat) (l : List UInt8) : numsK (n + 1) l = ((numK 7 0 l).1 :: (numsK n (l.drop ((numK 7 0 l).2 + 1))).1, (numK 7 0 l).2 + 1 + (numsK n (l.drop ((numK 7 0 l).2 + 1))).2) := rfl
theorem info_parts8 {P : Program} {t : TypeId} {z : Option Value} {s b : Nat} (h : (P.info? t).map (fun i => (i.zero, i.size, i.bytes)) = some (z, s, b)) : ∃ i, P.info? t = some i ∧ i.zero = z ∧ i.size = s ∧ i.bytes = b := by
  obtain ⟨i, hi, e⟩ := Option.map_eq_some_iff.1 h
  simp only [Prod.mk.injEq] at e
  exact ⟨i, hi, e.1, e.2.1, e.2.2⟩
theorem info_int8 : (Tryd.prog.info? 3).map (fun i => (i.zero, i.size, i.bytes)) = some (some (.int .i64 0), 1, 8) := by kernel_rfl
theorem int_src8 (z : Int) (hz : (Lit.int .i64 z).wf = true) (w : World) : OwC w ([z].flatMap intC) [.int .i64 z] [] := ⟨[], [], ⟨rfl, hz, rfl⟩, rfl, rfl⟩
theorem OwS.empty8 {α : Type} (w : World) (B : Nat) (hB : B ≤ w.heap.size) (e : TypeId) (k : Nat) (f : α → List D) : OwS (w.alloc (.cells #[] e)) B e k f (.slice (some ⟨w.heap.size, 0, none⟩) 0 0) [] [] [] :=
  ⟨⟨by simp, .inr ⟨w.heap.size, 0, #[], rfl, hB, Row.new w e [], Nat.le_refl _, by simp [maxLen], by simp, by simp⟩⟩, by simp [OwC], New.nil _ _, fun g _ h => by cases h⟩
set_option maxRecDepth 100000 in
set_option maxHeartbeats 1000000 in
theorem l42Nums_any (s : ByteArray) (a n : Nat) (w : World) (hs : s.size ≤ 1048576) (ha : a ≤ 1048600) (hn : n ≤ 4) :
    Calls Tryd.prog 21 #[.string s, .int .i64 (a : Int), .int .i64 (n : Int)] w fun e w' => ∃ A m c us, e = .returned (.tuple #[.slice A m c, .int .i64 ((a : Int) + ((numsK n (s.data.toList.drop a)).2 : Int))]) ∧ OwS w' w.heap.size 3 1 intC (.slice A m c) (numsK n (s.data.toList.drop a)).1 us [] ∧ Below w.heap.size w w' := by
  obtain ⟨ia, hia, ha0, ha1, ha2⟩ := info_parts8 info_int8
  have HIa := hide hia
  have HE := hide (OwS.empty8 w w.heap.size (Nat.le_refl _) 3 1 intC)
  have HB0 := hide (show Below w.heap.size w (w.alloc (.cells #[] 3)) from (Below.refl _ _).alloc (Nat.le_refl _) _)
  clear hia
  go_enter Tryd.func21, Tryd.ntmps21
  go_upto_region 2 with fail
  generalize w.alloc _ = w1 at HE HB0 ⊢
  go_wp2
  go_loopw [1, 8, 9] (fun t v i wr => ∃ (j m : Nat) (zs : List Int) (A : Option Addr) (k c : Nat) (us : List Value), j ≤ n ∧ m ≤ a + 8 * j ∧ t = .int .i64 (m : Int) ∧ v = .slice A k c ∧ i = .int .i64 (j : Int) ∧ zs.length = j ∧ (numsK n (s.data.toList.drop a)).1 = zs ++ (numsK (n - j) (s.data.toList.drop m)).1 ∧ a + (numsK n (s.data.toList.drop a)).2 = m + (numsK (n - j) (s.data.toList.drop m)).2 ∧ OwS wr w.heap.size 3 1 intC (.slice A k c) zs us [] ∧ Below w.heap.size w wr) (fun _ _ i _ => n - (intOf i).toNat)
  case atStart => exact ⟨0, a, [], _, _, _, _, Nat.zero_le _, by omega, rfl, rfl, rfl, rfl, rfl, rfl, HE.out, HB0.out⟩
  case round =>
    clear HE HB0
    obtain ⟨j, m, zs, A, k, c, us, hj, hm, rfl, rfl, rfl, hzl, h1, h2, hown, hbel⟩ := hrel
    have HS := hide hown
    have HB := hide hbel
    have H1 := hide h1
    have H2 := hide h2
    have hsz := hbel.size
    obtain ⟨A', c', ef⟩ := hown.form
    injection ef with e1 e2 e3
    subst e1 e2 e3
    have hzl' : zs.length ≤ 4 := by omega
    have HZL := hide hzl
    clear hown hbel h1 h2 hzl
    by_cases hlt : j < n
    · have hbd := num7_bd (s.data.toList.drop m)
      have hkk := (numK_le 7 0 (s.data.toList.drop m)).1
      have HC := hide (l42Num_any s m wr hs (by omega))
      have HN := numsK_next (n - (j + 1)) (s.data.toList.drop m)
      rw [show n - (j + 1) + 1 = n - j by omega, List.drop_drop] at HN
      have G1 := H1.out
      have G2 := H2.out
      rw [HN] at G1 G2
      have HG1 := hide G1
      have HG2 := hide G2
      have HI := hide (fun W => int_src8 (numK 7 0 (s.data.toList.drop m)).1 (WalkArith.wf_i64 (by omega)) W)
      clear G1 G2 HN H1 H2
      generalize hnk : (numK 7 0 (s.data.toList.drop m)).2 = kk at *
      generalize (numK 7 0 (s.data.toList.drop m)).1 = z at *
      have HSA := hide (HS.out.alloc (.cells #[.int .i64 z] 3))
      clear hnk
      go_wp2_with fail
      refine HC.out.mono ?_
      rintro e w2 ⟨rfl, rfl⟩
      clear HC
      go_wp2_with (first | (at_builtin; refine wpl_app rfl _ _ 45 rfl ia _ 8 Tryd.underlying45 HIa.out ha0 ha1 ha2 rfl (by decide) intC_len rfl HSA.out [z] (HI.out _) (by exact New.nil _ _) (fun g _ hg => by cases hg) _ 1 1 rfl rfl (SrcAt.new wr _ _ _ _) (by omega) (by decide) (by rw [World.size_alloc]; omega) ?_; intro A7 n7 c7 w7 hn7 hown7 hgb7; have HG7 := hide hgb7; have HN7 := hide hown7; clear hown7 hgb7 hn7))
      have HB7 := hide (((Below.refl wr.heap.size wr).alloc (Nat.le_refl _) _).mono hsz |>.trans (HG7.out.toBelow (by rw [World.size_alloc]; omega) (fun g e => HSA.out.from e)))
      go_roundw
      case rel => exact ⟨j + 1, m + kk + 1, zs ++ [z], A7, n7, c7, _, by omega, by omega, by go_num, rfl, by go_num, by rw [List.length_append, HZL.out]; rfl, by rw [HG1.out]; simp [Nat.add_assoc], by rw [HG2.out]; simp only [Nat.add_assoc], HN7.out, HB.out.trans HB7.out⟩
      case measure => simp [intOf]; omega
    · obtain rfl : j = n := by omega
      have G1 := H1.out
      have G2 := H2.out
      rw [Nat.sub_self] at G1 G2
      have HG1 := hide (show (numsK j (s.data.toList.drop a)).1 = zs from by rw [G1]; exact List.append_nil _)
      have HG2 := hide (show (a : Int) + ((numsK j (s.data.toList.drop a)).2 : Int) = (m : Int) from by rw [show (numsK 0 (s.data.toList.drop m)).2 = 0 from rfl] at G2; omega)
      clear G1 G2 H1 H2
      go_wp2
      go_ret2
      refine ⟨A, _, c, us, by rw [HG2.out]; rfl, by rw [HG1.out]; exact HS.out, HB.out⟩
end Go.Proofs.YtknlnndocamcmaaDoor
