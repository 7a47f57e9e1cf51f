/-
  Decimals: the reference's l6Dec. Decimals of the reference: numbers below 0 as well. The text of a tree: the reference's l1Text.
-/
import Derived.Deep.RegionWith
import Derived.Test.YtnaecdoeldoipaaGreatDoorQTxt
import Derived.Test.YtnaecdoeldoipaaGreatDoorQPackU
import Derived.Test.YtnaecdoeldoipaaGreatDoorQPlanT
set_option linter.unusedVariables false
set_option linter.unusedSimpArgs false
namespace Go.Proofs.YtnaecdoeldoipaaGreatDoor
open Go.ChangeShapes Go.WideShapes Go.ChangeAt Go.RowKit

theorem conv_oneD {w : World} {g : Nat} {z : Int} {b : UInt8} (c : Nat) (hz : z = (b.toNat : Int)) (hc : w.cell? ⟨g, 0, none⟩ = some (.int .u8 z)) : (convert 22 9 (.slice (some ⟨g, 0, none⟩) 1 c)).run Tryz.prog w = .ok (.string (ba [b])) w := by
  subst hz
  refine run_convert_bytes_back w 22 9 5 ⟨g, 0, none⟩ c [b] Tryz.underlying22 Tryz.underlying5 Tryz.underlying9 (fun j hj => ?_)
  rw [Addr.add_lit]
  match j, hj with
  | 0, _ => exact hc
theorem size_daD (w : World) (o : Obj) : (w.alloc o).drew.heap.size = w.heap.size + 1 := World.size_alloc w o
theorem ba_one (b : UInt8) : ba [b] = ⟨#[b]⟩ := rfl
def DecN (f : Nat) : Prop := ∀ (n : Nat) (w : World), n < 10 ^ f → n ≤ 4611686018427387904 →
  Calls Tryz.prog 83 #[.int .i64 (n : Int)] w fun e w' => e = .returned (.string (dec n)) ∧ Below w.heap.size w w'
set_option maxRecDepth 100000 in
set_option maxHeartbeats 2000000 in
theorem decN_of (f : Nat) (ih : ∀ f', f = f' + 1 → DecN f') : DecN f := by
  intro n w hf hn
  have h1 : ¬ ((n : Int) < -9223372036854775807) := by omega
  have h2 : ¬ ((n : Int) < 0) := by omega
  by_cases h10 : n < 10
  · have h10I : (n : Int) < 10 := by omega
    have hs : n + 48 < 256 := by omega
    obtain ⟨b, hb⟩ : ∃ b : UInt8, b = UInt8.ofNat (48 + n) := ⟨_, rfl⟩
    have hbn : (48 : Int) + (n : Int) = (b.toNat : Int) := by rw [hb, u8_nat _ (by omega)]; omega
    have HD := hide (show dec (n : Int) = ba [b] from by rw [dec_low (by omega) h10I, ba_one, hb, Int.toNat_natCast])
    have hcv := fun (u : World) (c : Nat) => conv_oneD (w := u.alloc (.cells #[.int .u8 (b.toNat : Int)] 5)) (g := u.heap.size) (b := b) c rfl (by simp)
    have HB := hide (fun (o : Obj) => (Below.refl w.heap.size w).alloc (Nat.le_refl _) o)
    clear hb ih
    go_enter Tryz.func83, Tryz.ntmps83
    go_wp2
    go_ret
    exact ⟨ret_str HD.out.symm, HB.out _⟩
  · obtain ⟨f, rfl⟩ : ∃ f', f = f' + 1 := by
      cases f with
      | zero => simp at hf; omega
      | succ f => exact ⟨f, rfl⟩
    have h10I : ¬ ((n : Int) < 10) := by omega
    obtain ⟨q, hq⟩ : ∃ q, n / 10 = q := ⟨_, rfl⟩
    obtain ⟨d, hd⟩ : ∃ d, n % 10 = d := ⟨_, rfl⟩
    have hqf : q < 10 ^ f := by rw [← hq]; rw [Nat.pow_succ] at hf; omega
    have hqn : q ≤ 4611686018427387904 := by omega
    obtain ⟨b, hb⟩ : ∃ b : UInt8, b = UInt8.ofNat (48 + d) := ⟨_, rfl⟩
    have hbn : b.toNat = 48 + d := by rw [hb]; exact u8_nat _ (by omega)
    have HD := hide (show dec (n : Int) = dec (q : Int) ++ ba [b] from by
      rw [dec_high (by omega), ba_one, hb, show (n : Int) / 10 = (q : Int) by omega, show ((n : Int) % 10).toNat = d by omega])
    have t1 : Int.tdiv (n : Int) 10 = (q : Int) := by rw [← hq]; exact (Int.ofNat_tdiv _ 10).symm
    have t2 : Int.tmod (n : Int) 10 = (d : Int) := by rw [← hd]; exact (Int.ofNat_tmod _ 10).symm
    have t3 : IntKind.i64.wrap (q : Int) = (q : Int) := wrapI _ (by omega) (by omega)
    have t4 : IntKind.i64.wrap (48 + (d : Int)) = (b.toNat : Int) := by rw [wrapI _ (by omega) (by omega)]; omega
    have t5 : IntKind.u8.wrap (b.toNat : Int) = (b.toNat : Int) := by have := b.toNat_lt; rw [IntKind.wrap_u8]; omega
    have hcv1 := fun (u : World) (c : Nat) => conv_oneD (w := u.alloc (.cells #[.int .u8 (b.toNat : Int)] 5)) (g := u.heap.size) (b := b) c rfl (by simp)
    have hcv2 := fun (u : World) (c : Nat) => conv_oneD (w := (u.alloc (.cells #[.int .u8 (b.toNat : Int)] 5)).drew) (g := u.heap.size) (b := b) c rfl (by simp)
    have hszd : (dec (q : Int)).size ≤ 20 := dec_size _ (by omega) (by omega)
    have hba1 : (ba [b]).size = 1 := rfl
    have hns : ¬ (9223372036854775807 < (dec (q : Int)).size + (ba [b]).size) := by omega
    have HI := hide (ih f rfl)
    have HB := hide (fun (o : Obj) => (Below.refl w.heap.size w).alloc (Nat.le_refl _) o)
    clear hb ih hq hd hbn
    go_enter Tryz.func83, Tryz.ntmps83
    go_wp2
    go_region_with (first
      | (go_at_call 83; (with_reducible show Calls _ _ _ (World.drew w) _); refine (HI.out q _ hqf hqn).mono ?_; rintro e w2 ⟨rfl, hb2⟩; have hbz := (Below.refl w.heap.size w).drew.trans hb2)
      | (go_at_call 83; (with_reducible show Calls _ _ _ (World.drew (World.alloc w _)) _); refine (HI.out q _ hqf hqn).mono ?_; rintro e w2 ⟨rfl, hb2⟩; have hbz : Below w.heap.size w w2 := ((Below.refl w.heap.size w).alloc (Nat.le_refl _) (.cells #[.int .u8 (b.toNat : Int)] 5)).drew.trans (hb2.mono (by rw [size_daD]; exact Nat.le_succ _)); have RZ := (show Row ((w.alloc (.cells #[.int .u8 (b.toNat : Int)] 5)).drew) w.heap.size 5 [.int .u8 (b.toNat : Int)] from Row.new w _ _).below hb2 (by rw [size_daD]; exact Nat.lt_succ_self _); have hcv3 := fun (c : Nat) => conv_oneD (w := w2) (g := w.heap.size) (b := b) c rfl (RZ.cell 0)))
    all_goals
      go_wp2_with fail
      go_ret
      first
        | exact ⟨ret_str HD.out.symm, hbz⟩
        | exact ⟨ret_str HD.out.symm, hbz.alloc hbz.size _⟩
theorem decN_any : ∀ f, DecN f
  | 0 => decN_of 0 (fun f' e => by cases e)
  | f + 1 => decN_of (f + 1) (fun f' e => by injection e with e; subst e; exact decN_any f)
theorem specDecN_any (n : Nat) (w : World) (hn : n ≤ 4611686018427387904) : Calls Tryz.prog 83 #[.int .i64 (n : Int)] w fun e w' => e = .returned (.string (dec n)) ∧ Below w.heap.size w w' :=
  decN_any 19 n w (by have e : (10 : Nat) ^ 19 = 10000000000000000000 := by decide
                      omega) hn
end Go.Proofs.YtnaecdoeldoipaaGreatDoor
set_option linter.unusedVariables false
set_option linter.unusedSimpArgs false
namespace Go.Proofs.YtnaecdoeldoipaaGreatDoor
open Go.ChangeShapes Go.WideShapes Go.ChangeAt Go.RowKit

set_option maxRecDepth 100000 in
set_option maxHeartbeats 1000000 in
theorem specDecZ_any (z : Int) (h0 : -4611686018427387904 ≤ z) (h1 : z ≤ 4611686018427387904) (w : World) : Calls Tryz.prog 83 #[.int .i64 z] w fun e w' => e = .returned (.string (dec z)) ∧ Below w.heap.size w w' := by
  by_cases hz : 0 ≤ z
  · obtain ⟨n, rfl⟩ := Int.eq_ofNat_of_zero_le hz
    exact specDecN_any n w (by omega)
  · obtain ⟨n, hn⟩ := Int.eq_ofNat_of_zero_le (show 0 ≤ -z by omega)
    have HC := hide (specDecN_any n w (by omega))
    have e1 : IntKind.i64.wrap (-z) = (n : Int) := by rw [wrapI _ (by omega) (by omega)]; exact hn
    have e2 : wrap64 (-z) = (n : Int) := by unfold wrap64; omega
    have hs := dec_size (n : Int) (by omega) (by omega)
    have HD := hide (show dec z = ⟨#[45]⟩ ++ dec (n : Int) from by rw [dec_neg (by omega), hn])
    have ha : ¬ (z < -9223372036854775807) := by omega
    have hb : z < 0 := by omega
    have s1 : (ByteArray.mk #[45]).size = 1 := rfl
    have HE1 := hide e1
    have HE2 := hide e2
    clear hn
    go_enter Tryz.func83, Tryz.ntmps83
    go_wp2_with fail
    first
      | refine HC.out.mono ?_
      | (rw [HE2.out]; refine HC.out.mono ?_)
      | (rw [HE1.out]; refine HC.out.mono ?_)
    rintro e w2 ⟨rfl, hb2⟩
    go_wp2
    go_ret
    exact ⟨ret_str HD.out.symm, hb2⟩
end Go.Proofs.YtnaecdoeldoipaaGreatDoor
set_option linter.unusedVariables false
set_option linter.unusedSimpArgs false
namespace Go.Proofs.YtnaecdoeldoipaaGreatDoor
open Go.ChangeShapes Go.WideShapes Go.ChangeAt Go.RowKit

def TextTree (k : Tree) : Prop := ∀ (us : List Value) (fp : List Nat) (lv : Nat) (w : World), OwC w k.cells us fp → Lt fp w.heap.size → k.bulk ≤ 1048576 → k.good lv → k.parts ≤ 120 →
  Calls Tryz.prog 43 #[.agg us.toArray] w fun e w' => e = .returned (.string k.wr) ∧ Below w.heap.size w w'
theorem kidHead_list (ns : List ByteArray) (i : Nat) : kidHead 4 ns i = if i = 0 then ⟨#[]⟩ else ⟨#[44]⟩ := by
  unfold kidHead
  rw [if_neg (show ¬ ((4 : Int) = 5) by omega)]
  exact ByteArray.append_empty
theorem kidHead_form {ns : List ByteArray} {i : Nat} (h : i < ns.length) : kidHead 5 ns i = (if i = 0 then ⟨#[]⟩ else ⟨#[44]⟩) ++ (ns[i] ++ ⟨#[58]⟩) := by
  unfold kidHead
  rw [if_pos rfl, List.getElem?_eq_getElem h]
  rfl
theorem ba_e (a : ByteArray) : (⟨#[]⟩ : ByteArray) ++ a = a := ByteArray.empty_append
set_option maxRecDepth 100000 in
set_option maxHeartbeats 8000000 in
theorem textTree_of (k : Tree) (ih : ∀ x ∈ k.kids, TextTree x) : TextTree k := by
  intro us fp lv w ho hf hbk hg hp
  obtain ⟨A1, c1, A2, c2, f1, f2, rfl, w0, w1, w2, o1, o2, rfl⟩ := ho.oTree
  clear ho
  have hgk := (Tree.good_iff _ _).1 hg
  have hpk := k.parts_eq
  have hkb := k.bulk_eq
  unfold bulkStrs at hkb
  have hsz := Tree.wr_size k lv hg
  have HT := hide k.wr_eq
  have s1 : (ByteArray.mk #[91]).size = 1 := rfl
  have s2 : (ByteArray.mk #[93]).size = 1 := rfl
  have s3 : (ByteArray.mk #[63]).size = 1 := rfl
  have s4 : (ByteArray.mk #[123]).size = 1 := rfl
  have s5 : (ByteArray.mk #[125]).size = 1 := rfl
  have s6 : (ByteArray.mk #[44]).size = 1 := rfl
  have s7 : (ByteArray.mk #[58]).size = 1 := rfl
  have s8 : (ByteArray.mk #[34]).size = 1 := rfl
  have hw1 : Below w.heap.size w (w.alloc (.cells #[.int .i64 k.sort, .int .i64 k.num, .string k.text, .slice A1 k.names.length c1, .slice A2 k.kids.length c2] 26)) := (Below.refl _ _).alloc (Nat.le_refl _) _
  have R1 : Row (w.alloc (.cells #[.int .i64 k.sort, .int .i64 k.num, .string k.text, .slice A1 k.names.length c1, .slice A2 k.kids.length c2] 26)) w.heap.size 26 [.int .i64 k.sort, .int .i64 k.num, .string k.text, .slice A1 k.names.length c1, .slice A2 k.kids.length c2] := Row.new w _ _
  have HR := hide hw1
  rcases hgk.2.1 with ⟨h1, h2, -⟩ | ⟨h1, -, h3, -⟩ | ⟨h1, h2, -⟩ | ⟨h1, -, -, h4, h5⟩ | ⟨h1, -, -, h4, h5⟩ | ⟨h1, -, -, h4, h5⟩
  · have HD := hide (fun W => specDecZ_any k.num (by omega) (by omega) W)
    have HE := hide (show k.wr = dec k.num from by rw [HT.out, if_pos h1])
    clear o1 o2 hw1 R1 ih hg hgk hkb h2
    generalize k.sort = s at *
    subst h1
    go_enter Tryz.func43, Tryz.ntmps43
    go_wp2_with fail
    refine (HD.out _).mono ?_
    rintro e w3 ⟨rfl, hb3⟩
    go_wp2
    go_ret
    exact ⟨ret_str HE.out.symm, HR.out.trans (hb3.mono HR.out.size)⟩
  · have hx := h3.1
    have HE := hide (show k.wr = ⟨#[34]⟩ ++ k.text ++ ⟨#[34]⟩ from by rw [HT.out, if_neg (by omega), if_pos h1])
    clear o1 o2 hw1 R1 ih hg hgk hkb h3
    generalize k.sort = s at *
    generalize k.text = x at *
    subst h1
    go_enter Tryz.func43, Tryz.ntmps43
    go_wp2
    go_ret
    exact ⟨ret_str HE.out.symm, HR.out⟩
  · have HE := hide (show k.wr = if k.num = 1 then ⟨#[121, 101, 115]⟩ else ⟨#[110, 111]⟩ from by rw [HT.out, if_neg (by omega), if_neg (by omega), if_pos h1])
    clear o1 o2 hw1 R1 ih hg hgk hkb
    generalize k.sort = s at *
    subst h1
    by_cases hn : k.num = 1
    · rw [if_pos hn] at HE
      generalize k.num = n at *
      subst hn
      go_enter Tryz.func43, Tryz.ntmps43
      go_wp2
      go_ret
      exact ⟨ret_str HE.out.symm, HR.out⟩
    · rw [if_neg hn] at HE
      generalize k.num = n at *
      go_enter Tryz.func43, Tryz.ntmps43
      go_wp2
      go_ret
      exact ⟨ret_str HE.out.symm, HR.out⟩
  · have HE := hide (show k.wr = ⟨#[91]⟩ ++ Tree.wrS 4 k.names 0 k.kids ++ ⟨#[93]⟩ from by rw [HT.out, if_neg (by omega), if_neg (by omega), if_neg (by omega), if_pos h1, h1])
    have hall := hide (fun j => by have h := Tree.wrS_take k lv hg j; rwa [h1] at h : ∀ j, (Tree.wrS 4 k.names 0 (k.kids.take j)).size ≤ 80 * Tree.partsS k.kids)
    have HK1 := hide h4
    have HK2 := hide h5
    have hnl : k.names.length ≤ 1048576 := by omega
    have hkl : k.kids.length ≤ 1048576 := by omega
    have hpp : Tree.partsS k.kids ≤ 119 := by omega
    have hbb : Tree.bulkS k.kids ≤ 1048576 := by omega
    have HI := hide ih
    have HG := hide hgk.2.2
    have HO1 := hide o1
    have HO2 := hide o2
    have HF1 := hide hf.left
    have HF2 := hide hf.right
    rw [h1] at R1 HR ⊢
    have HRW := hide R1
    have c10 := R1.cell 0
    have c30 := R1.cell 3
    have c40 := R1.cell 4
    have z0 := R1.lt
    clear o1 o2 hw1 R1 ih hg hgk hsz hpk hkb hp hbk hf HT h4 h5 h1 w0
    go_enter Tryz.func43, Tryz.ntmps43
    go_wp2
    go_loopw [3, 4] (fun o i wr => (∃ j : Nat, j ≤ k.kids.length ∧ i = .int .i64 (j : Int) ∧ o = .string (Tree.wrS 4 k.names 0 (k.kids.take j)) ∧ Row wr w.heap.size 26 [.int .i64 4, .int .i64 k.num, .string k.text, .slice A1 k.names.length c1, .slice A2 k.kids.length c2]) ∧ Below w.heap.size w wr) (fun _ i _ => k.kids.length - (intOf i).toNat)
    case atStart => exact ⟨⟨0, Nat.zero_le _, rfl, by simp [Tree.wrS]; rfl, HRW.out⟩, HR.out⟩
    case round =>
      obtain ⟨⟨j, hj, rfl, rfl, hrow⟩, hbel⟩ := hrel
      have HB := hide hbel
      have HW := hide hrow
      clear c10 c30 c40 z0
      have e0 := hrow.cell 0
      have e3 := hrow.cell 3
      have e4 := hrow.cell 4
      have el := hrow.lt
      clear hbel hrow
      by_cases hlt : j < k.kids.length
      · have hltI : (j : Int) < (k.kids.length : Int) := by omega
        have hj0 : (0 : Int) ≤ (j : Int) := by omega
        obtain ⟨g, off, vs, fi, rfl, hgm, hfi, hvl, hcs, hov⟩ := (HO2.out.below HB.out HF2.out).elem Tree.cells_len hlt
        have hov' := hide hov
        obtain ⟨B1, d1, B2, d2, q1, q2, rfl, v0, v1, v2, x1, x2, rfl⟩ := hov.oTree
        have p0 := hcs 0 _ rfl
        have p1 := hcs 1 _ rfl
        have p2 := hcs 2 _ rfl
        have p3 := hcs 3 _ rfl
        have p4 := hcs 4 _ rfl
        simp only [Nat.add_zero] at p0
        have hgl := (HF2.out.up HB.out) g hgm
        have hfq := hide (((HF2.out).up HB.out).sub hfi)
        have HC := hide (HI.out _ (List.getElem_mem hlt))
        have hgx := hide (Tree.goodS_mem _ _ HG.out _ (List.getElem_mem hlt))
        have hpx := Tree.partsS_at k.kids j hlt
        have hbx := Tree.bulk_at k.kids j hlt
        have hsx := Tree.wr_size _ _ hgx.out
        have hcur := hall.out j
        have HS := hide ((Tree.wrS_snoc 4 k.names k.kids 0 j hlt).trans (by rw [Nat.zero_add, kidHead_list]))
        clear x1 x2 hov hcs
        generalize k.kids[j] = x at *
        generalize Tree.wrS 4 k.names 0 (k.kids.take j) = cur at *
        by_cases hz : j = 0
        · rw [if_pos hz] at HS
          subst hz
          simp only [Nat.zero_mul, Nat.add_zero] at p0 p1 p2 p3 p4
          go_wp2_with fail
          refine (HC.out _ _ (lv + 1) _ hov'.out hfq.out (by omega) hgx.out (by omega)).mono ?_
          rintro e w2 ⟨rfl, hb2⟩
          have HH := hide (HB.out.trans (hb2.mono HB.out.size))
          have HQ := hide (HW.out.below hb2 HW.out.lt)
          clear hb2
          go_wp2
          go_roundw
          case rel => exact ⟨⟨1, by omega, by go_num, by rw [show (1 : Nat) = 0 + 1 from rfl, HS.out]; simp only [ByteArray.append_assoc, ba_e], HQ.out⟩, HH.out⟩
          case measure => simp [intOf]; omega
        · rw [if_neg hz] at HS
          have hzI : (0 : Int) < (j : Int) := by omega
          go_wp2_with fail
          refine (HC.out _ _ (lv + 1) _ hov'.out hfq.out (by omega) hgx.out (by omega)).mono ?_
          rintro e w2 ⟨rfl, hb2⟩
          have HH := hide (HB.out.trans (hb2.mono HB.out.size))
          have HQ := hide (HW.out.below hb2 HW.out.lt)
          clear hb2
          go_wp2
          go_roundw
          case rel => exact ⟨⟨j + 1, by omega, by go_num, by rw [HS.out]; simp only [ByteArray.append_assoc, ba_e], HQ.out⟩, HH.out⟩
          case measure => simp [intOf]; omega
      · obtain rfl : j = k.kids.length := by omega
        have hfull := hall.out k.kids.length
        have HF := hide (show k.wr = ⟨#[91]⟩ ++ Tree.wrS 4 k.names 0 (k.kids.take k.kids.length) ++ ⟨#[93]⟩ from by rw [HE.out, List.take_length])
        generalize Tree.wrS 4 k.names 0 (k.kids.take k.kids.length) = cur at *
        go_wp2
        go_ret
        exact ⟨ret_str HF.out.symm, HB.out⟩
  · have HE := hide (show k.wr = ⟨#[123]⟩ ++ Tree.wrS 5 k.names 0 k.kids ++ ⟨#[125]⟩ from by rw [HT.out, if_neg (by omega), if_neg (by omega), if_neg (by omega), if_neg (by omega), if_pos h1, h1])
    have hall := hide (fun j => by have h := Tree.wrS_take k lv hg j; rwa [h1] at h : ∀ j, (Tree.wrS 5 k.names 0 (k.kids.take j)).size ≤ 80 * Tree.partsS k.kids)
    have HK1 := hide h4
    have HK2 := hide h5
    have hnl : k.names.length ≤ 1048576 := by omega
    have hkl : k.kids.length ≤ 1048576 := by omega
    have hpp : Tree.partsS k.kids ≤ 119 := by omega
    have hbb : Tree.bulkS k.kids ≤ 1048576 := by omega
    have HI := hide ih
    have HG := hide hgk.2.2
    have HO1 := hide o1
    have HO2 := hide o2
    have HF1 := hide hf.left
    have HF2 := hide hf.right
    rw [h1] at R1 HR ⊢
    have HRW := hide R1
    have c10 := R1.cell 0
    have c30 := R1.cell 3
    have c40 := R1.cell 4
    have z0 := R1.lt
    clear o1 o2 hw1 R1 ih hg hgk hsz hpk hkb hp hbk hf HT h4 h5 h1 w0
    go_enter Tryz.func43, Tryz.ntmps43
    go_wp2
    go_loopw [3, 4] (fun o i wr => (∃ j : Nat, j ≤ k.kids.length ∧ i = .int .i64 (j : Int) ∧ o = .string (Tree.wrS 5 k.names 0 (k.kids.take j)) ∧ Row wr w.heap.size 26 [.int .i64 5, .int .i64 k.num, .string k.text, .slice A1 k.names.length c1, .slice A2 k.kids.length c2]) ∧ Below w.heap.size w wr) (fun _ i _ => k.kids.length - (intOf i).toNat)
    case atStart => exact ⟨⟨0, Nat.zero_le _, rfl, by simp [Tree.wrS]; rfl, HRW.out⟩, HR.out⟩
    case round =>
      obtain ⟨⟨j, hj, rfl, rfl, hrow⟩, hbel⟩ := hrel
      have HB := hide hbel
      have HW := hide hrow
      clear c10 c30 c40 z0
      have e0 := hrow.cell 0
      have e3 := hrow.cell 3
      have e4 := hrow.cell 4
      have el := hrow.lt
      clear hbel hrow
      by_cases hlt : j < k.kids.length
      · have hltI : (j : Int) < (k.kids.length : Int) := by omega
        have hj0 : (0 : Int) ≤ (j : Int) := by omega
        obtain ⟨g, off, vs, fi, rfl, hgm, hfi, hvl, hcs, hov⟩ := (HO2.out.below HB.out HF2.out).elem Tree.cells_len hlt
        have hov' := hide hov
        obtain ⟨B1, d1, B2, d2, q1, q2, rfl, v0, v1, v2, x1, x2, rfl⟩ := hov.oTree
        have p0 := hcs 0 _ rfl
        have p1 := hcs 1 _ rfl
        have p2 := hcs 2 _ rfl
        have p3 := hcs 3 _ rfl
        have p4 := hcs 4 _ rfl
        simp only [Nat.add_zero] at p0
        have hgl := (HF2.out.up HB.out) g hgm
        have hfq := hide (((HF2.out).up HB.out).sub hfi)
        have HC := hide (HI.out _ (List.getElem_mem hlt))
        have hgx := hide (Tree.goodS_mem _ _ HG.out _ (List.getElem_mem hlt))
        have hpx := Tree.partsS_at k.kids j hlt
        have hbx := Tree.bulk_at k.kids j hlt
        have hsx := Tree.wr_size _ _ hgx.out
        have hcur := hall.out j
        have hln : j < k.names.length := by have := HK2.out; omega
        obtain ⟨ga, oa, us, fa, rfl, hga, hfa, hul, hca, hoa⟩ := (HO1.out.below HB.out HF1.out).elem strC_len hln
        obtain ⟨rfl, hs, rfl⟩ := hoa.str
        have pa := hca 0 _ rfl
        simp only [Nat.add_zero, Nat.mul_one] at pa
        have hal := (HF1.out.up HB.out) ga hga
        have hnx : k.names[j].size ≤ 8 := (HK1.out j hln).1.2.1
        have HS := hide ((Tree.wrS_snoc 5 k.names k.kids 0 j hlt).trans (by rw [Nat.zero_add, kidHead_form hln]))
        clear hca hoa
        generalize k.names[j] = nm at *
        clear x1 x2 hov hcs
        generalize k.kids[j] = x at *
        generalize Tree.wrS 5 k.names 0 (k.kids.take j) = cur at *
        by_cases hz : j = 0
        · rw [if_pos hz] at HS
          subst hz
          simp only [Nat.zero_mul, Nat.add_zero] at p0 p1 p2 p3 p4
          simp only [Nat.add_zero] at pa
          go_wp2_with fail
          refine (HC.out _ _ (lv + 1) _ hov'.out hfq.out (by omega) hgx.out (by omega)).mono ?_
          rintro e w2 ⟨rfl, hb2⟩
          have HH := hide (HB.out.trans (hb2.mono HB.out.size))
          have HQ := hide (HW.out.below hb2 HW.out.lt)
          clear hb2
          go_wp2
          go_roundw
          case rel => exact ⟨⟨1, by omega, by go_num, by rw [show (1 : Nat) = 0 + 1 from rfl, HS.out]; simp only [ByteArray.append_assoc, ba_e], HQ.out⟩, HH.out⟩
          case measure => simp [intOf]; omega
        · rw [if_neg hz] at HS
          have hzI : (0 : Int) < (j : Int) := by omega
          go_wp2_with fail
          refine (HC.out _ _ (lv + 1) _ hov'.out hfq.out (by omega) hgx.out (by omega)).mono ?_
          rintro e w2 ⟨rfl, hb2⟩
          have HH := hide (HB.out.trans (hb2.mono HB.out.size))
          have HQ := hide (HW.out.below hb2 HW.out.lt)
          clear hb2
          go_wp2
          go_roundw
          case rel => exact ⟨⟨j + 1, by omega, by go_num, by rw [HS.out]; simp only [ByteArray.append_assoc, ba_e], HQ.out⟩, HH.out⟩
          case measure => simp [intOf]; omega
      · obtain rfl : j = k.kids.length := by omega
        have hfull := hall.out k.kids.length
        have HF := hide (show k.wr = ⟨#[123]⟩ ++ Tree.wrS 5 k.names 0 (k.kids.take k.kids.length) ++ ⟨#[125]⟩ from by rw [HE.out, List.take_length])
        generalize Tree.wrS 5 k.names 0 (k.kids.take k.kids.length) = cur at *
        go_wp2
        go_ret
        exact ⟨ret_str HF.out.symm, HB.out⟩
  · have HE := hide (show k.wr = Tree.wrM k.kids from by rw [HT.out, if_neg (by omega), if_neg (by omega), if_neg (by omega), if_neg (by omega), if_neg (by omega)])
    by_cases hk0 : k.kids.length = 0
    · have HE2 := hide (show k.wr = ⟨#[126]⟩ from by rw [HE.out, List.length_eq_zero_iff.1 hk0]; rfl)
      have q0 : ((k.kids.length : Int) == 0) = true := by simp [hk0]
      clear o1 o2 hw1 R1 ih hg hgk hkb HE h4 h5 hk0
      generalize k.sort = s at *
      subst h1
      go_enter Tryz.func43, Tryz.ntmps43
      go_wp2
      go_ret
      exact ⟨ret_str HE2.out.symm, HR.out⟩
    · have hlt : 0 < k.kids.length := by omega
      have hk1 : k.kids.length = 1 := by omega
      obtain ⟨g, off, vs, fi, rfl, hgm, hfi, hvl, hcs, hov⟩ := (o2.below hw1 hf.right).elem Tree.cells_len hlt
      have hov' := hide hov
      obtain ⟨B1, d1, B2, d2, q1, q2, rfl, v0, v1, v2, x1, x2, rfl⟩ := hov.oTree
      have p0 := hcs 0 _ rfl
      have p1 := hcs 1 _ rfl
      have p2 := hcs 2 _ rfl
      have p3 := hcs 3 _ rfl
      have p4 := hcs 4 _ rfl
      simp only [Nat.zero_mul, Nat.add_zero] at p0 p1 p2 p3 p4
      have hgl := ((hf.right).up hw1) g hgm
      have hfq := hide (((hf.right).up hw1).sub hfi)
      have HC := hide (ih _ (List.getElem_mem hlt))
      have HTK := hide (HE.out.trans (Tree.wrM_at k.kids hlt))
      have hgx := hide (Tree.goodS_mem _ _ hgk.2.2 _ (List.getElem_mem hlt))
      have hpx := Tree.partsS_at k.kids 0 hlt
      have hbx := Tree.bulk_at k.kids 0 hlt
      have hsx := Tree.wr_size _ _ hgx.out
      have q0 : ((k.kids.length : Int) == 0) = false := beq_eq_false_iff_ne.2 (by omega)
      have hltI : (0 : Int) < (k.kids.length : Int) := by omega
      clear x1 x2 hov hcs o1 o2 hw1 R1 ih hg hgk HE h4 h5 hk0 hk1
      generalize k.kids[0] = x at *
      generalize k.sort = s at *
      subst h1
      go_enter Tryz.func43, Tryz.ntmps43
      go_wp2_with fail
      refine (HC.out _ _ (lv + 1) _ hov'.out hfq.out (by omega) hgx.out (by omega)).mono ?_
      rintro e w3 ⟨rfl, hb3⟩
      go_wp2
      go_ret
      exact ⟨ret_str HTK.out.symm, HR.out.trans (hb3.mono HR.out.size)⟩
theorem textTree_any (k : Tree) : TextTree k := Tree.ind textTree_of k
end Go.Proofs.YtnaecdoeldoipaaGreatDoor
