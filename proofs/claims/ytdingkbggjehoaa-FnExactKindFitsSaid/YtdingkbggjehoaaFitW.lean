/-
  KindFits of the reference: l3Kid, l3Fits.
-/
import Derived.Test.YtdingkbggjehoaaFit
import Derived.Deep.RegionHeld3
import Derived.Deep.CutRange
import Derived.Deep.DeepCutAuto
set_option linter.unusedVariables false
set_option linter.unusedSimpArgs false
namespace Go.Proofs.Ytdingkbggjehoaa
open Go.ChangeShapes Go.WideShapes Go.ChangeAt Go.RowKit

set_option maxRecDepth 100000 in
theorem l3Kid_any (k : Kind) (us : List Value) (fp : List Nat) (x : ByteArray) (w : World) (h : OwC w k.cells us fp) (hl : Lt fp w.heap.size) (hbk : k.bulk ≤ 1048576) (hn : k.names.length ≤ k.kids.length) (hx : x.size ≤ maxLen) :
    Calls Try.prog 155 #[.agg us.toArray, .string x] w fun e w' =>
      ∃ (s : Int) (D1 : Option Addr) (n1 d1 : Nat) (D2 : Option Addr) (n2 d2 : Nat), e = .returned (.tuple #[.agg #[.int .i64 s, .slice D1 n1 d1, .slice D2 n2 d2], .bool (tb (x ∈ k.names))]) ∧ (x ∈ k.names → ∃ (i : Nat) (h : i < k.kids.length) (h2 : i < k.names.length) (fi : List Nat), k.names[i] = x ∧ OwC w' k.kids[i].cells [.int .i64 s, .slice D1 n1 d1, .slice D2 n2 d2] fi ∧ fi ⊆ fp) ∧ Below w.heap.size w w' := by
  obtain ⟨A1, c1, A2, c2, f1, f2, rfl, w0, o1, o2, rfl⟩ := h.oKind
  have hw1 : Below w.heap.size w ((w.alloc (.cells #[.int .i64 k.sort, .slice A1 k.names.length c1, .slice A2 k.kids.length c2] 30)).alloc (.cells #[.int .i64 0, .slice none 0 0, .slice none 0 0] 30)) := ((Below.refl w.heap.size w).alloc (Nat.le_refl _) _).alloc (by simp) _
  have hkb := k.bulk_eq; unfold bulkStrs at hkb
  have hB1 := hide hw1
  have O1 := hide o1
  have O2 := hide o2
  clear h o1 o2 hw1
  go_enter Try.func155, Try.ntmps155
  go_wp2
  go_loopw [6] (fun i wr => (∃ j : Nat, j ≤ k.names.length ∧ i = .int .i64 j ∧ ∀ a (h1 : a < k.names.length), a < j → ¬ k.names[a] = x) ∧ wr = ((w.alloc (.cells #[.int .i64 k.sort, .slice A1 k.names.length c1, .slice A2 k.kids.length c2] 30)).alloc (.cells #[.int .i64 0, .slice none 0 0, .slice none 0 0] 30))) (fun i _ => k.names.length - (intOf i).toNat)
  case atStart => exact ⟨⟨0, Nat.zero_le _, rfl, fun a h1 h => absurd h (by omega)⟩, rfl⟩
  case round =>
    obtain ⟨⟨j, hj, rfl, ha⟩, rfl⟩ := hrel
    have HA := hide ha
    clear ha
    by_cases hlt : j < k.names.length
    · obtain ⟨g, off, rfl, hgm, hcell, hs1⟩ := strs_at (O1.out.below hB1.out hl.left) hlt
      by_cases he : k.names[j] = x
      · have HE := hide he
        have hin := hide (show x ∈ k.names from he ▸ List.getElem_mem hlt)
        have hk2 : j < k.kids.length := by omega
        obtain ⟨g', off', ws', fi', rfl, hgm', hfi', hwl', hcs', hov'⟩ := O2.out.elem Kind.cells_len hk2
        have hov2 := hide hov'
        have hgl' := hl.right _ hgm'
        have hfi2 : Lt fi' w.heap.size := hl.right.sub hfi'
        obtain ⟨C1, m1, C2, m2, s1, s2, rfl, n0, l1, l2, rfl⟩ := hov'.oKind
        have p0 := (hB1.out.cell (p := ⟨g', off' + j * 3, none⟩) hgl').trans (by simpa using hcs' 0 _ rfl)
        have p1 := (hB1.out.cell (p := ⟨g', off' + j * 3 + 1, none⟩) hgl').trans (hcs' 1 _ rfl)
        have p2 := (hB1.out.cell (p := ⟨g', off' + j * 3 + 2, none⟩) hgl').trans (hcs' 2 _ rfl)
        have hgw' := Nat.lt_of_lt_of_le hgl' hB1.out.size
        clear hcs' hov' l1 l2
        have HT := hide (tb_true hin.out)
        have HW := hide (fun w' (hb : Below w.heap.size w w') => show ∃ (i : Nat) (h : i < k.kids.length) (h2 : i < k.names.length) (fi : List Nat), k.names[i] = x ∧ OwC w' k.kids[i].cells [.int .i64 k.kids[j].sort, .slice C1 k.kids[j].names.length m1, .slice C2 k.kids[j].kids.length m2] fi ∧ fi ⊆ f1 ++ f2 from ⟨j, hk2, hlt, _, he, hov2.out.below hb hfi2, fun b hb => List.mem_append_right _ (hfi' hb)⟩)
        rw [he] at hcell
        have hyes := txt_yes (rfl : x = x)
        clear he
        generalize k.kids[j] = y at *
        go_wp2
        refine bodyPost_ret (v := .tuple #[.agg #[.int .i64 y.sort, .slice C1 y.names.length m1, .slice C2 y.kids.length m2], .bool true]) (by simp [results, Try.results155, go_sem]) rfl ?_
        refine ⟨_, _, _, _, _, _, _, by rw [HT.out], fun _ => HW.out _ ?_, ?_⟩
        all_goals (first | exact hB1.out | exact ((hB1.out.setCell (by simp) _).setCell (by simp) _).setCell (by simp) _ | exact ((Below.refl w.heap.size w).alloc (Nat.le_refl _) _).alloc (by simp) _)
      · have HE := txt_no he
        have hnext := hide (fun (a : Nat) (h1 : a < k.names.length) (h : a < j + 1) => show ¬ k.names[a] = x from by
          by_cases e : a < j
          · exact HA.out a h1 e
          · obtain rfl : a = j := by omega
            exact he)
        clear he
        go_wp2
        go_roundw
        case rel => first | exact ⟨⟨j + 1, by omega, by go_num, hnext.out⟩, rfl⟩ | exact ⟨⟨j + 1, by omega, by go_num, hnext.out⟩, trivial⟩
        case measure => simp [intOf]; omega
    · obtain rfl : j = k.names.length := by omega
      have hno := hide (fun (h : x ∈ k.names) => show False from by
        obtain ⟨i, hi, e⟩ := List.getElem_of_mem h
        exact HA.out i hi hi e)
      have HT := hide (tb_false (p := x ∈ k.names) hno.out)
      go_wp2
      refine bodyPost_ret (v := .tuple #[.agg #[.int .i64 0, .slice none 0 0, .slice none 0 0], .bool false]) (by simp [results, Try.results155, go_sem]) rfl ?_
      refine ⟨_, _, _, _, _, _, _, by rw [HT.out], fun h => (hno.out h).elim, ?_⟩
      first | exact hB1.out | exact ((hB1.out.setCell (by simp) _).setCell (by simp) _).setCell (by simp) _
theorem kc {B : Nat} {W w' : World} {p : Addr} {v : Value} (h : W.cell? p = some v) (hb : Below B W w') (hl : p.block < B) : w'.cell? p = some v := (hb.cell hl).trans h

def FitW (tk : Kind) : Prop := ∀ (fr : Kind) (us vs : List Value) (fp fq : List Nat) (lv lw : Nat) (w : World), OwC w fr.cells us fp → OwC w tk.cells vs fq → Lt fp w.heap.size → Lt fq w.heap.size → fr.bulk ≤ 1048576 → tk.bulk ≤ 1048576 → fr.good lv → tk.good lw →
  Calls Try.prog 78 #[.agg us.toArray, .agg vs.toArray] w fun e w' => e = .returned (.bool (tb (tk.fit fr))) ∧ Below w.heap.size w w'
set_option maxRecDepth 100000 in
set_option maxHeartbeats 2000000 in
theorem fitW_of (tk : Kind) (ih : ∀ x ∈ tk.kids, FitW x) : FitW tk := by
  intro fr us vs fp fq lv lw w hk ht hf hg hbk hbt hgk hgt
  have HK := hide hk
  have HTO := hide ht
  obtain ⟨A1, c1, A2, c2, f1, f2, rfl, w0, o1, o2, rfl⟩ := hk.oKind
  obtain ⟨B1, d1, B2, d2, q1, q2, rfl, v0, x1, x2, rfl⟩ := ht.oKind
  have hw1 : Below w.heap.size w ((w.alloc (.cells #[.int .i64 fr.sort, .slice A1 fr.names.length c1, .slice A2 fr.kids.length c2] 30)).alloc (.cells #[.int .i64 tk.sort, .slice B1 tk.names.length d1, .slice B2 tk.kids.length d2] 30)) := ((Below.refl w.heap.size w).alloc (Nat.le_refl _) _).alloc (by simp) _
  have RK : Row ((w.alloc (.cells #[.int .i64 fr.sort, .slice A1 fr.names.length c1, .slice A2 fr.kids.length c2] 30)).alloc (.cells #[.int .i64 tk.sort, .slice B1 tk.names.length d1, .slice B2 tk.kids.length d2] 30)) w.heap.size 30 [.int .i64 fr.sort, .slice A1 fr.names.length c1, .slice A2 fr.kids.length c2] := (Row.new w _ _).alloc _
  have RT : Row ((w.alloc (.cells #[.int .i64 fr.sort, .slice A1 fr.names.length c1, .slice A2 fr.kids.length c2] 30)).alloc (.cells #[.int .i64 tk.sort, .slice B1 tk.names.length d1, .slice B2 tk.kids.length d2] 30)) (w.heap.size + 1) 30 [.int .i64 tk.sort, .slice B1 tk.names.length d1, .slice B2 tk.kids.length d2] := by
    have h := Row.new (w.alloc (.cells #[.int .i64 fr.sort, .slice A1 fr.names.length c1, .slice A2 fr.kids.length c2] 30)) 30 [.int .i64 tk.sort, .slice B1 tk.names.length d1, .slice B2 tk.kids.length d2]
    rw [World.size_alloc] at h
    exact h
  have hfit := hide (Kind.fit_iff tk fr)
  have hkb := fr.bulk_eq; unfold bulkStrs at hkb
  have htb := tk.bulk_eq; unfold bulkStrs at htb
  have hB1 := hide hw1
  have O1 := hide o1
  have O2 := hide o2
  have X1 := hide x1
  have X2 := hide x2
  have HI := hide ih
  have HGK := hide hgk
  have HGT := hide hgt
  have hsk := hide ((fr.shape_iff).1 ((Kind.good_iff _ _).1 hgk).2.1)
  have hst := hide ((tk.shape_iff).1 ((Kind.good_iff _ _).1 hgt).2.1)
  clear hk ht o1 o2 x1 x2 hw1 ih hgk hgt
  by_cases h6 : tk.sort = 6
  · have hp : 0 < tk.kids.length := by have := hst.out; omega
    have b6 : (tk.sort == 6) = true := by simp [h6]
    have HC := hide (HI.out _ (List.getElem_mem hp))
    by_cases g6 : fr.sort = 6
    · have hp2 : 0 < fr.kids.length := by have := hsk.out; omega
      have e6 : (fr.sort == 6) = true := by simp [g6]
      have HE := hide (show tb (tk.fit fr) = tb ((tk.kids[0]'hp).fit (fr.kids[0]'hp2)) from congrArg tb (propext (hfit.out.trans ⟨fun h => (h.1 h6 hp).1 g6 hp2, fun h => ⟨fun _ _ => ⟨fun _ _ => h, fun e => absurd g6 e⟩, fun e => absurd h6 e⟩⟩)))
      clear h6 g6
      obtain ⟨ga, offa, wsa, fia, rfl, hgma, hfia, hwla, hcsa, hova⟩ := (O2.out.below hB1.out hf.right).elem Kind.cells_len hp2
      have HOa := hide hova
      have HFa := hide (((hf.right).up hB1.out).sub hfia)
      have HGa := hide (Kind.kid_good HGK.out hp2)
      have hba := Nat.le_trans (Kind.kid_bulk hp2) hbk
      have hgla := hf.right _ hgma
      have hgwa := Nat.lt_of_lt_of_le hgla hB1.out.size
      obtain ⟨C1a, m1a, C2a, m2a, s1a, s2a, rfl, n0a, l1a, l2a, rfl⟩ := hova.oKind
      have p0a := hcsa 0 _ rfl
      have p1a := hcsa 1 _ rfl
      have p2a := hcsa 2 _ rfl
      simp only [Nat.zero_mul, Nat.add_zero] at p0a p1a p2a
      clear hcsa hova l1a l2a hfia
      obtain ⟨gb, offb, wsb, fib, rfl, hgmb, hfib, hwlb, hcsb, hovb⟩ := (X2.out.below hB1.out hg.right).elem Kind.cells_len hp
      have HOb := hide hovb
      have HFb := hide (((hg.right).up hB1.out).sub hfib)
      have HGb := hide (Kind.kid_good HGT.out hp)
      have hbb := Nat.le_trans (Kind.kid_bulk hp) hbt
      have hglb := hg.right _ hgmb
      have hgwb := Nat.lt_of_lt_of_le hglb hB1.out.size
      obtain ⟨C1b, m1b, C2b, m2b, s1b, s2b, rfl, n0b, l1b, l2b, rfl⟩ := hovb.oKind
      have p0b := hcsb 0 _ rfl
      have p1b := hcsb 1 _ rfl
      have p2b := hcsb 2 _ rfl
      simp only [Nat.zero_mul, Nat.add_zero] at p0b p1b p2b
      clear hcsb hovb l1b l2b hfib
      have lk := RK.lt
      have lt := RT.lt
      have k0 := RK.cell 0
      have k2 := RK.cell 2
      have t0 := RT.cell 0
      have t2 := RT.cell 2
      generalize tk.kids[0] = y at *
      generalize fr.kids[0] = x at *
      go_enter Try.func78, Try.ntmps78
      go_wp2_with fail
      generalize ((w.alloc (.cells #[.int .i64 fr.sort, .slice A1 fr.names.length c1, .slice (some ⟨ga, offa, none⟩) fr.kids.length c2] 30)).alloc (.cells #[.int .i64 tk.sort, .slice B1 tk.names.length d1, .slice (some ⟨gb, offb, none⟩) tk.kids.length d2] 30)) = W2 at *
      go_still_tail 8, (by kernel_rfl)
      change wpList _ _ _ _ _ W2.drew
      go_wp2_with fail
      refine (HC.out x _ _ _ _ (lv + 1) (lw + 1) _ (HOa.out.drewN 1) (HOb.out.drewN 1) HFa.out HFb.out hba hbb HGa.out HGb.out).mono ?_
      rintro e w3 ⟨rfl, hb3⟩
      go_wp2
      go_ret
      exact ⟨ret_bool HE.out.symm, (below_drewN hB1.out 1).trans (hb3.mono hB1.out.size)⟩
    · have e6 : (fr.sort == 6) = false := by simp [g6]
      have HE := hide (show tb (tk.fit fr) = tb ((tk.kids[0]'hp).fit fr) from congrArg tb (propext (hfit.out.trans ⟨fun h => (h.1 h6 hp).2 g6, fun h => ⟨fun _ _ => ⟨fun e => absurd e g6, fun _ => h⟩, fun e => absurd h6 e⟩⟩)))
      clear h6 g6
      obtain ⟨gb, offb, wsb, fib, rfl, hgmb, hfib, hwlb, hcsb, hovb⟩ := (X2.out.below hB1.out hg.right).elem Kind.cells_len hp
      have HOb := hide hovb
      have HFb := hide (((hg.right).up hB1.out).sub hfib)
      have HGb := hide (Kind.kid_good HGT.out hp)
      have hbb := Nat.le_trans (Kind.kid_bulk hp) hbt
      have hglb := hg.right _ hgmb
      have hgwb := Nat.lt_of_lt_of_le hglb hB1.out.size
      obtain ⟨C1b, m1b, C2b, m2b, s1b, s2b, rfl, n0b, l1b, l2b, rfl⟩ := hovb.oKind
      have p0b := hcsb 0 _ rfl
      have p1b := hcsb 1 _ rfl
      have p2b := hcsb 2 _ rfl
      simp only [Nat.zero_mul, Nat.add_zero] at p0b p1b p2b
      clear hcsb hovb l1b l2b hfib
      have lk := RK.lt
      have lt := RT.lt
      have k0 := RK.cell 0
      have k1 := RK.cell 1
      have k2 := RK.cell 2
      have t0 := RT.cell 0
      have t2 := RT.cell 2
      generalize tk.kids[0] = y at *
      go_enter Try.func78, Try.ntmps78
      go_wp2_with fail
      generalize ((w.alloc (.cells #[.int .i64 fr.sort, .slice A1 fr.names.length c1, .slice A2 fr.kids.length c2] 30)).alloc (.cells #[.int .i64 tk.sort, .slice B1 tk.names.length d1, .slice (some ⟨gb, offb, none⟩) tk.kids.length d2] 30)) = W2 at *
      go_still_tail 5, (by kernel_rfl)
      change wpList _ _ _ _ _ W2.drew
      go_wp2_with fail
      refine (HC.out fr _ _ _ _ lv (lw + 1) _ ((HK.out.below hB1.out hf).drewN 1) (HOb.out.drewN 1) ((hf.up hB1.out).mono (Nat.le_refl _)) HFb.out hbk hbb HGK.out HGb.out).mono ?_
      rintro e w3 ⟨rfl, hb3⟩
      go_wp2
      go_ret
      exact ⟨ret_bool HE.out.symm, (below_drewN hB1.out 1).trans (hb3.mono hB1.out.size)⟩
  · have b6 : (tk.sort == 6) = false := by simp [h6]
    by_cases hs : fr.sort = tk.sort
    · have e6 : (fr.sort == 6) = false := by simp [hs, h6]
      have bs : (fr.sort != tk.sort) = false := by simp [hs]
      by_cases h4 : tk.sort = 4
      · have b4 : (tk.sort == 4) = true := by simp [h4]
        have e4 : (fr.sort == 4) = true := by simp [hs, h4]
        have hp : 0 < tk.kids.length := by have := hst.out; omega
        have hp2 : 0 < fr.kids.length := by have := hsk.out; omega
        have HC := hide (HI.out _ (List.getElem_mem hp))
        have HE := hide (show tb (tk.fit fr) = tb ((tk.kids[0]'hp).fit (fr.kids[0]'hp2)) from congrArg tb (propext (hfit.out.trans ⟨fun h => ((h.2 h6).2.1 h4 hp hp2), fun h => ⟨fun e => absurd e h6, fun _ => ⟨hs, fun _ _ _ => h, fun e => absurd h4 e⟩⟩⟩)))
        clear h6 h4 hs
        obtain ⟨ga, offa, wsa, fia, rfl, hgma, hfia, hwla, hcsa, hova⟩ := (O2.out.below hB1.out hf.right).elem Kind.cells_len hp2
        have HOa := hide hova
        have HFa := hide (((hf.right).up hB1.out).sub hfia)
        have HGa := hide (Kind.kid_good HGK.out hp2)
        have hba := Nat.le_trans (Kind.kid_bulk hp2) hbk
        have hgla := hf.right _ hgma
        have hgwa := Nat.lt_of_lt_of_le hgla hB1.out.size
        obtain ⟨C1a, m1a, C2a, m2a, s1a, s2a, rfl, n0a, l1a, l2a, rfl⟩ := hova.oKind
        have p0a := hcsa 0 _ rfl
        have p1a := hcsa 1 _ rfl
        have p2a := hcsa 2 _ rfl
        simp only [Nat.zero_mul, Nat.add_zero] at p0a p1a p2a
        clear hcsa hova l1a l2a hfia
        obtain ⟨gb, offb, wsb, fib, rfl, hgmb, hfib, hwlb, hcsb, hovb⟩ := (X2.out.below hB1.out hg.right).elem Kind.cells_len hp
        have HOb := hide hovb
        have HFb := hide (((hg.right).up hB1.out).sub hfib)
        have HGb := hide (Kind.kid_good HGT.out hp)
        have hbb := Nat.le_trans (Kind.kid_bulk hp) hbt
        have hglb := hg.right _ hgmb
        have hgwb := Nat.lt_of_lt_of_le hglb hB1.out.size
        obtain ⟨C1b, m1b, C2b, m2b, s1b, s2b, rfl, n0b, l1b, l2b, rfl⟩ := hovb.oKind
        have p0b := hcsb 0 _ rfl
        have p1b := hcsb 1 _ rfl
        have p2b := hcsb 2 _ rfl
        simp only [Nat.zero_mul, Nat.add_zero] at p0b p1b p2b
        clear hcsb hovb l1b l2b hfib
        have lk := RK.lt
        have lt := RT.lt
        have k0 := RK.cell 0
        have k2 := RK.cell 2
        have t0 := RT.cell 0
        have t2 := RT.cell 2
        generalize tk.kids[0] = y at *
        generalize fr.kids[0] = x at *
        go_enter Try.func78, Try.ntmps78
        go_wp2_with fail
        generalize ((w.alloc (.cells #[.int .i64 fr.sort, .slice A1 fr.names.length c1, .slice (some ⟨ga, offa, none⟩) fr.kids.length c2] 30)).alloc (.cells #[.int .i64 tk.sort, .slice B1 tk.names.length d1, .slice (some ⟨gb, offb, none⟩) tk.kids.length d2] 30)) = W2 at *
        go_still_tail 8, (by kernel_rfl)
        change wpList _ _ _ _ _ W2.drew
        go_wp2_with fail
        refine (HC.out x _ _ _ _ (lv + 1) (lw + 1) _ (HOa.out.drewN 1) (HOb.out.drewN 1) HFa.out HFb.out hba hbb HGa.out HGb.out).mono ?_
        rintro e w3 ⟨rfl, hb3⟩
        go_wp2
        go_ret
        exact ⟨ret_bool HE.out.symm, (below_drewN hB1.out 1).trans (hb3.mono hB1.out.size)⟩
      · have b4 : (tk.sort == 4) = false := by simp [h4]
        have e4 : (fr.sort == 4) = false := by simp [hs, h4]
        have hna : Hid (NamesOk fr.names ∧ fr.names.length = fr.kids.length) := by
          have h := hsk.out
          by_cases h5 : fr.sort = 5
          · exact hide (by rcases h with h | h | h <;> first | (exact ⟨h.2.1, h.2.2⟩) | omega)
          · have h1 : fr.names.length = 0 := by omega
            exact hide ⟨fun i hi => absurd hi (by omega), by omega⟩
        have hnb : Hid (NamesOk tk.names ∧ tk.names.length = tk.kids.length) := by
          have h := hst.out
          by_cases h5 : tk.sort = 5
          · exact hide (by rcases h with h | h | h <;> first | (exact ⟨h.2.1, h.2.2⟩) | omega)
          · have h1 : tk.names.length = 0 := by omega
            exact hide ⟨fun i hi => absurd hi (by omega), by omega⟩
        have hfit2 := hide (hfit.out.trans ⟨fun h => ((h.2 h6).2.2 h4), fun h => ⟨fun e => absurd e h6, fun _ => ⟨hs, fun e => absurd e h4, fun _ => h⟩⟩⟩)
        clear h6 h4 hs hsk hst hfit
        have lk := RK.lt
        have lt := RT.lt
        have k0 := RK.cell 0
        have k1 := RK.cell 1
        have k2 := RK.cell 2
        have t0 := RT.cell 0
        have t1 := RT.cell 1
        have t2 := RT.cell 2
        go_enter Try.func78, Try.ntmps78
        go_wp2
        go_loopw [5] (fun i wr => (∃ j : Nat, j ≤ fr.names.length ∧ i = .int .i64 j ∧ ∀ a (h : a < fr.names.length), a < j → fr.names[a] ∈ tk.names ∧ ∀ b (h1 : b < tk.kids.length) (h2 : b < tk.names.length) (h3 : a < fr.kids.length), fr.names[a] = tk.names[b] → tk.kids[b].fit fr.kids[a]) ∧ Below w.heap.size w wr ∧ Row wr w.heap.size 30 [.int .i64 fr.sort, .slice A1 fr.names.length c1, .slice A2 fr.kids.length c2] ∧ Row wr (w.heap.size + 1) 30 [.int .i64 tk.sort, .slice B1 tk.names.length d1, .slice B2 tk.kids.length d2]) (fun i _ => fr.names.length - (intOf i).toNat)
        case atStart => exact ⟨⟨0, Nat.zero_le _, rfl, fun a h1 h => absurd h (by omega)⟩, hB1.out, RK, RT⟩
        case round =>
          clear lk lt k0 k1 k2 t0 t1 t2
          obtain ⟨⟨j, hj, rfl, ha⟩, hbw, RKw, RTw⟩ := hrel
          have HA := hide ha
          have HB := hide hbw
          clear ha hbw
          have lk := RKw.lt
          have lt := RTw.lt
          have k0 := RKw.cell 0
          have k1 := RKw.cell 1
          have k2 := RKw.cell 2
          have t0 := RTw.cell 0
          have t1 := RTw.cell 1
          have t2 := RTw.cell 2
          by_cases hlt : j < fr.names.length
          · have hlt2 : j < fr.kids.length := by have := hna.out.2; omega
            obtain ⟨g, off, rfl, hgm, hcell, hs1⟩ := strs_at (O1.out.below HB.out hf.left) hlt
            have hgwg := Nat.lt_of_lt_of_le (hf.left _ hgm) HB.out.size
            have hnn : tk.names.length ≤ tk.kids.length := by have := hnb.out.2; omega
            have hnn := hide hnn
            have hcont := hide (fun w' (hb : Below wr.heap.size wr w') => l3Kid_any tk _ _ (fr.names[j]) w' ((HTO.out.below HB.out hg).below hb (hg.up HB.out)) ((hg.up HB.out).up hb) hbt hnn.out hs1)
            have hnx := hide (fun (h : fr.names[j] ∈ tk.names) (hq : ∀ b (h1 : b < tk.kids.length) (h2 : b < tk.names.length), fr.names[j] = tk.names[b] → tk.kids[b].fit fr.kids[j]) (a : Nat) (h1 : a < fr.names.length) (hl : a < j + 1) => show fr.names[a] ∈ tk.names ∧ ∀ b (h1 : b < tk.kids.length) (h2 : b < tk.names.length) (h3 : a < fr.kids.length), fr.names[a] = tk.names[b] → tk.kids[b].fit fr.kids[a] from by
              by_cases e : a < j
              · exact HA.out a h1 e
              · obtain rfl : a = j := by omega
                exact ⟨h, fun b h1 h2 _ e => hq b h1 h2 e⟩)
            have hbad1 := hide (fun (h : ¬ fr.names[j] ∈ tk.names) => tb_false (p := tk.fit fr) (fun ht => h ((hfit2.out.1 ht).2 _ (List.getElem_mem hlt))))
            have hbad2 := hide (fun b (h1 : b < tk.kids.length) (h2 : b < tk.names.length) (e : tk.names[b] = fr.names[j]) (h : ¬ tk.kids[b].fit fr.kids[j]) => tb_false (p := tk.fit fr) (fun ht => h (((hfit2.out.1 ht).1 b h1 h2).1 j hlt2 hlt e.symm)))
            have hu := hide (fun b (h1 : b < tk.names.length) (e : tk.names[b] = fr.names[j]) b' (h1' : b' < tk.names.length) (e' : fr.names[j] = tk.names[b']) => show b = b' from names_inj hnb.out.1 h1 h1' (e.trans e'))
            obtain ⟨ga, offa, wsa, fia, rfl, hgma, hfia, hwla, hcsa, hova⟩ := (O2.out.below HB.out hf.right).elem Kind.cells_len hlt2
            have HOa := hide hova
            have HFa := hide (((hf.right).up HB.out).sub hfia)
            have HGa := hide (Kind.kid_good HGK.out hlt2)
            have hba := Nat.le_trans (Kind.kid_bulk hlt2) hbk
            have hgla := hf.right _ hgma
            have hgwa := Nat.lt_of_lt_of_le hgla HB.out.size
            obtain ⟨C1a, m1a, C2a, m2a, s1a, s2a, rfl, n0a, l1a, l2a, rfl⟩ := hova.oKind
            have p0a := hcsa 0 _ rfl
            have p1a := hcsa 1 _ rfl
            have p2a := hcsa 2 _ rfl
            simp only [Nat.add_zero] at p0a
            clear hcsa hova l1a l2a hfia
            generalize fr.names[j] = nm at *
            generalize fr.kids[j] = x at *
            go_upto_region 12 with fail
            go_cut [6, 7] from 49 to 77 (fun s6 s7 wx => ∃ (bx : Nat) (s : Int) (D1 : Option Addr) (n1 d1 : Nat) (D2 : Option Addr) (n2 d2 : Nat), s6 = .pointer (some ⟨bx, 0, none⟩) ∧ s7 = .bool (tb (nm ∈ tk.names)) ∧ Row wx bx 30 [.int .i64 s, .slice D1 n1 d1, .slice D2 n2 d2] ∧ (nm ∈ tk.names → ∃ (i : Nat) (h : i < tk.kids.length) (h2 : i < tk.names.length) (fi : List Nat), tk.names[i] = nm ∧ OwC wx tk.kids[i].cells [.int .i64 s, .slice D1 n1 d1, .slice D2 n2 d2] fi ∧ fi ⊆ q1 ++ q2) ∧ Below wr.heap.size wr wx)
            case first =>
              go_region_held3 (fun w' => w'.cell? ⟨w.heap.size + 1, 0, none⟩ = some (.int .i64 tk.sort) ∧ w'.cell? ⟨w.heap.size + 1, 1, none⟩ = some (.slice B1 tk.names.length d1) ∧ w'.cell? ⟨w.heap.size + 1, 2, none⟩ = some (.slice B2 tk.kids.length d2) ∧ w'.cell? ⟨w.heap.size, 1, none⟩ = some (.slice (some ⟨g, off, none⟩) fr.names.length c1) ∧ w'.cell? ⟨g, off + j, none⟩ = some (.string nm))
                (first | go_keep | (refine ⟨kc t0 ?_ lt, kc t1 ?_ lt, kc t2 ?_ lt, kc k1 ?_ lk, kc hcell ?_ hgwg⟩ <;> first | exact hbz | exact hbz.alloc hbz.size _ | exact hbz.setCell (p := ⟨wr.heap.size, 0, none⟩) (Nat.le_refl _) _ | exact (hbz.setCell (p := ⟨wr.heap.size, 0, none⟩) (Nat.le_refl _) _).setCell (p := ⟨wr.heap.size, 1, none⟩) (Nat.le_refl _) _ | exact ((hbz.setCell (p := ⟨wr.heap.size, 0, none⟩) (Nat.le_refl _) _).setCell (p := ⟨wr.heap.size, 1, none⟩) (Nat.le_refl _) _).setCell (p := ⟨wr.heap.size, 2, none⟩) (Nat.le_refl _) _))
                (first
                  | (go_at_call 155; refine (hcont.out _ (below_drewN (Below.refl _ wr) 1)).mono ?_; rintro e w2 ⟨s, D1, n1, d1, D2, n2, d2, rfl, hyes, hb2⟩; have hbz : Below wr.heap.size wr w2 := (below_drewN (Below.refl _ wr) 1).trans hb2)
                  | (go_at_call 155; refine (hcont.out _ ((below_drewN (Below.refl _ wr) 1).alloc (Nat.le_refl _) _)).mono ?_; rintro e w2 ⟨s, D1, n1, d1, D2, n2, d2, rfl, hyes, hb2⟩; have hbz : Below wr.heap.size wr w2 := ((below_drewN (Below.refl _ wr) 1).alloc (Nat.le_refl _) _).trans (hb2.mono (by simp)); have RZ := (Row.new (wr.drewN 1) 30 [.int .i64 0, .slice none 0 0, .slice none 0 0]).below hb2 (by simp); have z0 : w2.cell? ⟨wr.heap.size, 0, none⟩ = some (.int .i64 0) := RZ.cell 0; have z1 : w2.cell? ⟨wr.heap.size, 1, none⟩ = some (.slice none 0 0) := RZ.cell 1; have z2 : w2.cell? ⟨wr.heap.size, 2, none⟩ = some (.slice none 0 0) := RZ.cell 2; have zf0 : w2.frozen? ⟨wr.heap.size, 0, none⟩ = false := RZ.frozen 0; have zf1 : w2.frozen? ⟨wr.heap.size, 1, none⟩ = false := RZ.frozen 1; have zf2 : w2.frozen? ⟨wr.heap.size, 2, none⟩ = false := RZ.frozen 2))
              all_goals
                have HY := hide (fun wx (hst : Below wr.heap.size w2 wx) (h : nm ∈ tk.names) => show ∃ (i : Nat) (h : i < tk.kids.length) (h2 : i < tk.names.length) (fi : List Nat), tk.names[i] = nm ∧ OwC wx tk.kids[i].cells [.int .i64 s, .slice D1 n1 d1, .slice D2 n2 d2] fi ∧ fi ⊆ q1 ++ q2 from by
                  obtain ⟨i, h1, h2, fi, e, ho, hs⟩ := hyes h
                  exact ⟨i, h1, h2, fi, e, ho.below hst ((hg.up HB.out).sub hs), hs⟩)
                have HBZ := hide hbz
                clear hyes hb2 hbz
                go_wp2_with fail
                go_meet
                first
                  | exact ⟨_, _, _, _, _, _, _, _, rfl, rfl, Row.new w2 _ _, HY.out _ ((Below.refl wr.heap.size w2).alloc HBZ.out.size _), HBZ.out.trans ((Below.refl wr.heap.size w2).alloc HBZ.out.size _)⟩
                  | exact ⟨_, _, _, _, _, _, _, _, rfl, rfl, ((RZ.set 0 _).set 1 _).set 2 _, HY.out _ ((((Below.refl wr.heap.size w2).setCell (p := ⟨wr.heap.size, 0, none⟩) (Nat.le_refl _) _).setCell (p := ⟨wr.heap.size, 1, none⟩) (Nat.le_refl _) _).setCell (p := ⟨wr.heap.size, 2, none⟩) (Nat.le_refl _) _), HBZ.out.trans ((((Below.refl wr.heap.size w2).setCell (p := ⟨wr.heap.size, 0, none⟩) (Nat.le_refl _) _).setCell (p := ⟨wr.heap.size, 1, none⟩) (Nat.le_refl _) _).setCell (p := ⟨wr.heap.size, 2, none⟩) (Nat.le_refl _) _)⟩
            case rest =>
              obtain ⟨bx, s, D1, n1, d1, D2, n2, d2, rfl, rfl, rbx, hyes, hb2'⟩ := hcut
              have HB2 := hide (HB.out.trans (hb2'.mono HB.out.size))
              have RK2 := RKw.below hb2' lk
              have RT2 := RTw.below hb2' lt
              by_cases hin : nm ∈ tk.names
              · rw [tb_true hin]
                obtain ⟨b, h1, h2, fi, eb, ho, hfi⟩ := hyes hin
                have HOb := hide ho
                have HFb := hide (((hg.up HB2.out)).sub hfi)
                have HGb := hide (Kind.kid_good HGT.out h1)
                have hbb := Nat.le_trans (Kind.kid_bulk h1) hbt
                have HC := hide (HI.out _ (List.getElem_mem h1))
                have HX1 := hide (hnx.out hin)
                have HX2 := hide (hbad2.out b h1 h2 eb)
                have HX3 := hide (hu.out b h2 eb)
                clear ho hyes hin
                have pp0 := (hb2'.cell (p := ⟨ga, offa + j * 3, none⟩) hgwa).trans p0a
                have pp1 := (hb2'.cell (p := ⟨ga, offa + j * 3 + 1, none⟩) hgwa).trans p1a
                have pp2 := (hb2'.cell (p := ⟨ga, offa + j * 3 + 2, none⟩) hgwa).trans p2a
                have l2 := RK2.lt
                have r2 := RK2.cell 2
                have y0 := rbx.cell 0
                have y1 := rbx.cell 1
                have y2 := rbx.cell 2
                have ly := rbx.lt
                have hsz3 := Nat.lt_of_lt_of_le hgwa hb2'.size
                have HBT := hide hb2'
                clear hb2' rbx p0a p1a p2a k0 k1 k2 t0 t1 t2 lk lt
                go_wp2_with fail
                go_still_tail 9, (by kernel_rfl)
                change wpList _ _ _ _ _ wc.drew
                go_wp2_with fail
                refine (HC.out x _ _ _ _ (lv + 1) (lw + 1) _ ((HOa.out.below HBT.out HFa.out).drewN 1) (HOb.out.drewN 1) (((HFa.out).up HBT.out).mono (Nat.le_refl _)) HFb.out hba hbb HGa.out HGb.out).mono ?_
                rintro e w3 ⟨rfl, hb3⟩
                have hb4 : Below wc.heap.size wc w3 := (below_drewN (Below.refl _ wc) 1).trans hb3
                have RK3 := RK2.below hb4 RK2.lt
                have RT3 := RT2.below hb4 RT2.lt
                have HB3 := hide (HB2.out.trans (hb4.mono HB2.out.size))
                by_cases hfx : tk.kids[b].fit x
                · rw [tb_true hfx]
                  have HZ := hide (HX1.out (fun b' h1' h2' e' => by obtain rfl := HX3.out b' h2' e'; exact hfx))
                  clear hfx hb4 hb3
                  go_wp2
                  go_roundw
                  case rel => exact ⟨⟨j + 1, by omega, by go_num, HZ.out⟩, HB3.out, RK3, RT3⟩
                  case measure => simp [intOf]; omega
                · rw [tb_false hfx]
                  have HZ := hide (HX2.out hfx)
                  clear hfx
                  go_wp2
                  go_ret
                  exact ⟨ret_bool HZ.out.symm, HB3.out⟩
              · rw [tb_false hin]
                have HZ := hide (hbad1.out hin)
                clear hin hyes
                go_wp2
                go_quiet (fail)
                go_wp2
                go_ret
                exact ⟨ret_bool HZ.out.symm, by first | exact HB2.out | exact below_drewN HB2.out _⟩
          · obtain rfl : j = fr.names.length := by omega
            go_wp2
            go_loopw [8] (fun i wr => (∃ j : Nat, j ≤ tk.names.length ∧ i = .int .i64 j ∧ ∀ a (h : a < tk.names.length) (h2 : a < tk.kids.length), a < j → tk.names[a] ∈ fr.names ∨ tk.kids[a].sort = 6) ∧ Below w.heap.size w wr ∧ Row wr w.heap.size 30 [.int .i64 fr.sort, .slice A1 fr.names.length c1, .slice A2 fr.kids.length c2] ∧ Row wr (w.heap.size + 1) 30 [.int .i64 tk.sort, .slice B1 tk.names.length d1, .slice B2 tk.kids.length d2]) (fun i _ => tk.names.length - (intOf i).toNat)
            case atStart => exact ⟨⟨0, Nat.zero_le _, rfl, fun a h1 h2 h => absurd h (by omega)⟩, HB.out, RKw, RTw⟩
            case round =>
              clear lk lt k0 k1 k2 t0 t1 t2 RKw RTw HB
              obtain ⟨⟨j, hj, rfl, ha⟩, hbw, RKw, RTw⟩ := hrel
              have HA2 := hide ha
              have HB := hide hbw
              clear ha hbw
              have lk := RKw.lt
              have lt := RTw.lt
              have k0 := RKw.cell 0
              have k1 := RKw.cell 1
              have k2 := RKw.cell 2
              have t0 := RTw.cell 0
              have t1 := RTw.cell 1
              have t2 := RTw.cell 2
              by_cases hlt : j < tk.names.length
              · have hlt2 : j < tk.kids.length := by have := hnb.out.2; omega
                obtain ⟨g, off, rfl, hgm, hcell, hs1⟩ := strs_at (X1.out.below HB.out hg.left) hlt
                have hgwg := Nat.lt_of_lt_of_le (hg.left _ hgm) HB.out.size
                have hnn : fr.names.length ≤ fr.kids.length := by have := hna.out.2; omega
                have hnn := hide hnn
                have hcont := hide (fun w' (hb : Below wr.heap.size wr w') => l3Kid_any fr _ _ (tk.names[j]) w' ((HK.out.below HB.out hf).below hb (hf.up HB.out)) ((hf.up HB.out).up hb) hbk hnn.out hs1)
                have hnx := hide (fun (h : tk.names[j] ∈ fr.names ∨ tk.kids[j].sort = 6) (a : Nat) (h1 : a < tk.names.length) (h2 : a < tk.kids.length) (hl : a < j + 1) => show tk.names[a] ∈ fr.names ∨ tk.kids[a].sort = 6 from by
                  by_cases e : a < j
                  · exact HA2.out a h1 h2 e
                  · obtain rfl : a = j := by omega
                    exact h)
                have hbad := hide (fun (h : ¬ tk.names[j] ∈ fr.names) (h' : ¬ tk.kids[j].sort = 6) => tb_false (p := tk.fit fr) (fun ht => h' (((hfit2.out.1 ht).1 j hlt2 hlt).2 h)))
                obtain ⟨gb, offb, wsb, fib, rfl, hgmb, hfib, hwlb, hcsb, hovb⟩ := (X2.out.below HB.out hg.right).elem Kind.cells_len hlt2
                have HOb := hide hovb
                have HFb := hide (((hg.right).up HB.out).sub hfib)
                have HGb := hide (Kind.kid_good HGT.out hlt2)
                have hbb := Nat.le_trans (Kind.kid_bulk hlt2) hbt
                have hglb := hg.right _ hgmb
                have hgwb := Nat.lt_of_lt_of_le hglb HB.out.size
                obtain ⟨C1b, m1b, C2b, m2b, s1b, s2b, rfl, n0b, l1b, l2b, rfl⟩ := hovb.oKind
                have p0b := hcsb 0 _ rfl
                have p1b := hcsb 1 _ rfl
                have p2b := hcsb 2 _ rfl
                simp only [Nat.add_zero] at p0b
                clear hcsb hovb l1b l2b hfib
                generalize tk.names[j] = nm at *
                generalize tk.kids[j] = y at *
                go_upto_region 18 with fail
                go_cut [9, 10] from 78 to 105 (fun s6 s7 wx => ∃ (bx : Nat) (s : Int) (D1 : Option Addr) (n1 d1 : Nat) (D2 : Option Addr) (n2 d2 : Nat), s6 = .pointer (some ⟨bx, 0, none⟩) ∧ s7 = .bool (tb (nm ∈ fr.names)) ∧ Row wx bx 30 [.int .i64 s, .slice D1 n1 d1, .slice D2 n2 d2] ∧ (nm ∈ fr.names → ∃ (i : Nat) (h : i < fr.kids.length) (h2 : i < fr.names.length) (fi : List Nat), fr.names[i] = nm ∧ OwC wx fr.kids[i].cells [.int .i64 s, .slice D1 n1 d1, .slice D2 n2 d2] fi ∧ fi ⊆ f1 ++ f2) ∧ Below wr.heap.size wr wx)
                case first =>
                  go_region_held3 (fun w' => w'.cell? ⟨w.heap.size, 0, none⟩ = some (.int .i64 fr.sort) ∧ w'.cell? ⟨w.heap.size, 1, none⟩ = some (.slice A1 fr.names.length c1) ∧ w'.cell? ⟨w.heap.size, 2, none⟩ = some (.slice A2 fr.kids.length c2) ∧ w'.cell? ⟨w.heap.size + 1, 1, none⟩ = some (.slice (some ⟨g, off, none⟩) tk.names.length d1) ∧ w'.cell? ⟨g, off + j, none⟩ = some (.string nm))
                    (first | go_keep | (refine ⟨kc k0 ?_ lk, kc k1 ?_ lk, kc k2 ?_ lk, kc t1 ?_ lt, kc hcell ?_ hgwg⟩ <;> first | exact hbz | exact hbz.alloc hbz.size _ | exact hbz.setCell (p := ⟨wr.heap.size, 0, none⟩) (Nat.le_refl _) _ | exact (hbz.setCell (p := ⟨wr.heap.size, 0, none⟩) (Nat.le_refl _) _).setCell (p := ⟨wr.heap.size, 1, none⟩) (Nat.le_refl _) _ | exact ((hbz.setCell (p := ⟨wr.heap.size, 0, none⟩) (Nat.le_refl _) _).setCell (p := ⟨wr.heap.size, 1, none⟩) (Nat.le_refl _) _).setCell (p := ⟨wr.heap.size, 2, none⟩) (Nat.le_refl _) _))
                    (first
                      | (go_at_call 155; refine (hcont.out _ (below_drewN (Below.refl _ wr) 1)).mono ?_; rintro e w2 ⟨s, D1, n1, d1, D2, n2, d2, rfl, hyes, hb2⟩; have hbz : Below wr.heap.size wr w2 := (below_drewN (Below.refl _ wr) 1).trans hb2)
                      | (go_at_call 155; refine (hcont.out _ ((below_drewN (Below.refl _ wr) 1).alloc (Nat.le_refl _) _)).mono ?_; rintro e w2 ⟨s, D1, n1, d1, D2, n2, d2, rfl, hyes, hb2⟩; have hbz : Below wr.heap.size wr w2 := ((below_drewN (Below.refl _ wr) 1).alloc (Nat.le_refl _) _).trans (hb2.mono (by simp)); have RZ := (Row.new (wr.drewN 1) 30 [.int .i64 0, .slice none 0 0, .slice none 0 0]).below hb2 (by simp); have z0 : w2.cell? ⟨wr.heap.size, 0, none⟩ = some (.int .i64 0) := RZ.cell 0; have z1 : w2.cell? ⟨wr.heap.size, 1, none⟩ = some (.slice none 0 0) := RZ.cell 1; have z2 : w2.cell? ⟨wr.heap.size, 2, none⟩ = some (.slice none 0 0) := RZ.cell 2; have zf0 : w2.frozen? ⟨wr.heap.size, 0, none⟩ = false := RZ.frozen 0; have zf1 : w2.frozen? ⟨wr.heap.size, 1, none⟩ = false := RZ.frozen 1; have zf2 : w2.frozen? ⟨wr.heap.size, 2, none⟩ = false := RZ.frozen 2))
                  all_goals
                    have HY := hide (fun wx (hst : Below wr.heap.size w2 wx) (h : nm ∈ fr.names) => show ∃ (i : Nat) (h : i < fr.kids.length) (h2 : i < fr.names.length) (fi : List Nat), fr.names[i] = nm ∧ OwC wx fr.kids[i].cells [.int .i64 s, .slice D1 n1 d1, .slice D2 n2 d2] fi ∧ fi ⊆ f1 ++ f2 from by
                      obtain ⟨i, h1, h2, fi, e, ho, hs⟩ := hyes h
                      exact ⟨i, h1, h2, fi, e, ho.below hst ((hf.up HB.out).sub hs), hs⟩)
                    have HBZ := hide hbz
                    clear hyes hb2 hbz
                    go_wp2_with fail
                    go_meet
                    first
                      | exact ⟨_, _, _, _, _, _, _, _, rfl, rfl, Row.new w2 _ _, HY.out _ ((Below.refl wr.heap.size w2).alloc HBZ.out.size _), HBZ.out.trans ((Below.refl wr.heap.size w2).alloc HBZ.out.size _)⟩
                      | exact ⟨_, _, _, _, _, _, _, _, rfl, rfl, ((RZ.set 0 _).set 1 _).set 2 _, HY.out _ ((((Below.refl wr.heap.size w2).setCell (p := ⟨wr.heap.size, 0, none⟩) (Nat.le_refl _) _).setCell (p := ⟨wr.heap.size, 1, none⟩) (Nat.le_refl _) _).setCell (p := ⟨wr.heap.size, 2, none⟩) (Nat.le_refl _) _), HBZ.out.trans ((((Below.refl wr.heap.size w2).setCell (p := ⟨wr.heap.size, 0, none⟩) (Nat.le_refl _) _).setCell (p := ⟨wr.heap.size, 1, none⟩) (Nat.le_refl _) _).setCell (p := ⟨wr.heap.size, 2, none⟩) (Nat.le_refl _) _)⟩
                case rest =>
                  obtain ⟨bx, s, D1, n1, d1, D2, n2, d2, rfl, rfl, rbx, hyes, hb2'⟩ := hcut
                  have HB2 := hide (HB.out.trans (hb2'.mono HB.out.size))
                  have RK2 := RKw.below hb2' lk
                  have RT2 := RTw.below hb2' lt
                  by_cases hin : nm ∈ fr.names
                  · rw [tb_true hin]
                    have HZ := hide (hnx.out (.inl hin))
                    clear hyes hin hb2' rbx p0b p1b p2b k0 k1 k2 t0 t1 t2 lk lt
                    go_wp2
                    go_roundw
                    case rel => exact ⟨⟨j + 1, by omega, by go_num, HZ.out⟩, HB2.out, RK2, RT2⟩
                    case measure => simp [intOf]; omega
                  · rw [tb_false hin]
                    have pp0 := (hb2'.cell (p := ⟨gb, offb + j * 3, none⟩) hgwb).trans p0b
                    have hgw2 := Nat.lt_of_lt_of_le hgwb hb2'.size
                    have l2 := RT2.lt
                    have r2 := RT2.cell 2
                    have HZ := hide (hnx.out)
                    have HZ2 := hide (hbad.out hin)
                    clear hyes hin hb2' rbx p0b p1b p2b k0 k1 k2 t0 t1 t2 lk lt
                    by_cases hy : y.sort = 6
                    · have by6 : (y.sort != 6) = false := by simp [hy]
                      have HZ := hide (HZ.out (.inr hy))
                      clear hy
                      go_wp2
                      go_roundw
                      case rel => exact ⟨⟨j + 1, by omega, by go_num, HZ.out⟩, HB2.out, RK2, RT2⟩
                      case measure => simp [intOf]; omega
                    · have by6 : (y.sort != 6) = true := by simp [hy]
                      have HZ := hide (HZ2.out hy)
                      clear hy
                      go_wp2
                      go_ret
                      exact ⟨ret_bool HZ.out.symm, HB2.out⟩
              · obtain rfl : j = tk.names.length := by omega
                have HT := hide (tb_true (hfit2.out.2 ⟨fun i h h2 => ⟨fun k h' h3 e => (HA.out k h3 h3).2 i h h2 h' e, fun hn => (HA2.out i h2 h h2).resolve_left hn⟩, fun x hx => by
                  obtain ⟨i, hi, rfl⟩ := List.getElem_of_mem hx
                  exact (HA.out i hi hi).1⟩))
                go_wp2
                go_ret
                exact ⟨ret_bool HT.out.symm, HB.out⟩
    · have bs : (fr.sort != tk.sort) = true := by simp [hs]
      have HT := hide (tb_false (p := tk.fit fr) (fun h => hs ((hfit.out.1 h).2 h6).1))
      have k0 := RK.cell 0
      have t0 := RT.cell 0
      have e6 : (fr.sort == 6) = false ∨ (fr.sort == 6) = true := by cases (fr.sort == 6) <;> simp
      clear hs h6
      rcases e6 with e6 | e6
      all_goals
        go_enter Try.func78, Try.ntmps78
        go_wp2
        go_ret
        exact ⟨ret_bool HT.out.symm, hB1.out⟩
theorem fitW_any (k : Kind) : FitW k := Kind.ind fitW_of k
end Go.Proofs.Ytdingkbggjehoaa
