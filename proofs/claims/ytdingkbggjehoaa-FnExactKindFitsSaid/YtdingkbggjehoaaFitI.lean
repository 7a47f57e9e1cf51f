/-
  KindFits of the program: fits.
-/
import Derived.Test.YtdingkbggjehoaaFit
import Derived.Deep.RegionHeld3
import Derived.Deep.CutRange
import Derived.Deep.DeepCutAuto
set_option linter.unusedVariables false
set_option linter.unusedSimpArgs false
namespace Go.Proofs.Ytdingkbggjehoaa
open Go.ChangeShapes Go.WideShapes Go.ChangeAt Go.RowKit

theorem many_step (l m : List ByteArray) (j : Nat) (h : j < l.length) : ((l.take (j + 1)).filter (fun x => tb (x ∈ m))).length = ((l.take j).filter (fun x => tb (x ∈ m))).length + (if tb (l[j] ∈ m) = true then 1 else 0) := by
  rw [List.take_succ_eq_append_getElem h, List.filter_append, List.length_append]
  by_cases hx : l[j] ∈ m
  · simp [tb_true hx]
  · simp [tb_false hx]
theorem many_le (l m : List ByteArray) (j : Nat) : ((l.take j).filter (fun x => tb (x ∈ m))).length ≤ l.length :=
  Nat.le_trans (List.length_filter_le _ _) (by rw [List.length_take]; omega)

def FitI (tk : Kind) : Prop := ∀ (fr : Kind) (us vs : List Value) (fp fq : List Nat) (lv lw : Nat) (w : World), OwC w fr.cells us fp → OwC w tk.cells vs fq → Lt fp w.heap.size → Lt fq w.heap.size → fr.bulk ≤ 1048576 → tk.bulk ≤ 1048576 → fr.good lv → tk.good lw →
  Calls Try.prog 82 #[.agg us.toArray, .agg vs.toArray] w fun e w' => e = .returned (.bool (tb (tk.fit fr))) ∧ Below w.heap.size w w'
set_option maxRecDepth 100000 in
set_option maxHeartbeats 2000000 in
theorem fitI_of (tk : Kind) (ih : ∀ x ∈ tk.kids, FitI x) : FitI tk := by
  intro fr us vs fp fq lv lw w hk ht hf hg hbk hbt hgk hgt
  have HK := hide hk
  have HTO := hide ht
  obtain ⟨A1, c1, A2, c2, f1, f2, rfl, w0, o1, o2, rfl⟩ := hk.oKind
  obtain ⟨B1, d1, B2, d2, q1, q2, rfl, v0, x1, x2, rfl⟩ := ht.oKind
  have hw1 : Below w.heap.size w ((w.alloc (.cells #[.int .i64 fr.sort, .slice A1 fr.names.length c1, .slice A2 fr.kids.length c2] 30)).alloc (.cells #[.int .i64 tk.sort, .slice B1 tk.names.length d1, .slice B2 tk.kids.length d2] 30)) := ((Below.refl w.heap.size w).alloc (Nat.le_refl _) _).alloc (by simp) _
  have RK : Row ((w.alloc (.cells #[.int .i64 fr.sort, .slice A1 fr.names.length c1, .slice A2 fr.kids.length c2] 30)).alloc (.cells #[.int .i64 tk.sort, .slice B1 tk.names.length d1, .slice B2 tk.kids.length d2] 30)) w.heap.size 30 [.int .i64 fr.sort, .slice A1 fr.names.length c1, .slice A2 fr.kids.length c2] := (Row.new w _ _).alloc _
  have RT : Row ((w.alloc (.cells #[.int .i64 fr.sort, .slice A1 fr.names.length c1, .slice A2 fr.kids.length c2] 30)).alloc (.cells #[.int .i64 tk.sort, .slice B1 tk.names.length d1, .slice B2 tk.kids.length d2] 30)) (w.heap.size + 1) 30 [.int .i64 tk.sort, .slice B1 tk.names.length d1, .slice B2 tk.kids.length d2] := by
    have h := Row.new (w.alloc (.cells #[.int .i64 fr.sort, .slice A1 fr.names.length c1, .slice A2 fr.kids.length c2] 30)) 30 [.int .i64 tk.sort, .slice B1 tk.names.length d1, .slice B2 tk.kids.length d2]
    rw [World.size_alloc] at h
    exact h
  have hfit := hide (Kind.fit_iff tk fr)
  have hkb := fr.bulk_eq; unfold bulkStrs at hkb
  have htb := tk.bulk_eq; unfold bulkStrs at htb
  have hB1 := hide hw1
  have O1 := hide o1
  have O2 := hide o2
  have X1 := hide x1
  have X2 := hide x2
  have HI := hide ih
  have HGK := hide hgk
  have HGT := hide hgt
  have hsk := hide ((fr.shape_iff).1 ((Kind.good_iff _ _).1 hgk).2.1)
  have hst := hide ((tk.shape_iff).1 ((Kind.good_iff _ _).1 hgt).2.1)
  clear hk ht o1 o2 x1 x2 hw1 ih hgk hgt
  by_cases h6 : tk.sort = 6
  · have hp : 0 < tk.kids.length := by have := hst.out; omega
    have b6 : (tk.sort == 6) = true := by simp [h6]
    have HC := hide (HI.out _ (List.getElem_mem hp))
    by_cases g6 : fr.sort = 6
    · have hp2 : 0 < fr.kids.length := by have := hsk.out; omega
      have e6 : (fr.sort == 6) = true := by simp [g6]
      have HE := hide (show tb (tk.fit fr) = tb ((tk.kids[0]'hp).fit (fr.kids[0]'hp2)) from congrArg tb (propext (hfit.out.trans ⟨fun h => (h.1 h6 hp).1 g6 hp2, fun h => ⟨fun _ _ => ⟨fun _ _ => h, fun e => absurd g6 e⟩, fun e => absurd h6 e⟩⟩)))
      clear h6 g6
      obtain ⟨ga, offa, wsa, fia, rfl, hgma, hfia, hwla, hcsa, hova⟩ := (O2.out.below hB1.out hf.right).elem Kind.cells_len hp2
      have HOa := hide hova
      have HFa := hide (((hf.right).up hB1.out).sub hfia)
      have HGa := hide (Kind.kid_good HGK.out hp2)
      have hba := Nat.le_trans (Kind.kid_bulk hp2) hbk
      have hgla := hf.right _ hgma
      have hgwa := Nat.lt_of_lt_of_le hgla hB1.out.size
      obtain ⟨C1a, m1a, C2a, m2a, s1a, s2a, rfl, n0a, l1a, l2a, rfl⟩ := hova.oKind
      have p0a := hcsa 0 _ rfl
      have p1a := hcsa 1 _ rfl
      have p2a := hcsa 2 _ rfl
      simp only [Nat.zero_mul, Nat.add_zero] at p0a p1a p2a
      clear hcsa hova l1a l2a hfia
      obtain ⟨gb, offb, wsb, fib, rfl, hgmb, hfib, hwlb, hcsb, hovb⟩ := (X2.out.below hB1.out hg.right).elem Kind.cells_len hp
      have HOb := hide hovb
      have HFb := hide (((hg.right).up hB1.out).sub hfib)
      have HGb := hide (Kind.kid_good HGT.out hp)
      have hbb := Nat.le_trans (Kind.kid_bulk hp) hbt
      have hglb := hg.right _ hgmb
      have hgwb := Nat.lt_of_lt_of_le hglb hB1.out.size
      obtain ⟨C1b, m1b, C2b, m2b, s1b, s2b, rfl, n0b, l1b, l2b, rfl⟩ := hovb.oKind
      have p0b := hcsb 0 _ rfl
      have p1b := hcsb 1 _ rfl
      have p2b := hcsb 2 _ rfl
      simp only [Nat.zero_mul, Nat.add_zero] at p0b p1b p2b
      clear hcsb hovb l1b l2b hfib
      have lk := RK.lt
      have lt := RT.lt
      have k0 := RK.cell 0
      have k2 := RK.cell 2
      have t0 := RT.cell 0
      have t2 := RT.cell 2
      generalize tk.kids[0] = y at *
      generalize fr.kids[0] = x at *
      go_enter Try.func82, Try.ntmps82
      go_wp2_with fail
      generalize ((w.alloc (.cells #[.int .i64 fr.sort, .slice A1 fr.names.length c1, .slice (some ⟨ga, offa, none⟩) fr.kids.length c2] 30)).alloc (.cells #[.int .i64 tk.sort, .slice B1 tk.names.length d1, .slice (some ⟨gb, offb, none⟩) tk.kids.length d2] 30)) = W2 at *
      go_still_tail 8, (by kernel_rfl)
      change wpList _ _ _ _ _ W2.drew
      go_wp2_with fail
      refine (HC.out x _ _ _ _ (lv + 1) (lw + 1) _ (HOa.out.drewN 1) (HOb.out.drewN 1) HFa.out HFb.out hba hbb HGa.out HGb.out).mono ?_
      rintro e w3 ⟨rfl, hb3⟩
      go_wp2
      go_ret
      exact ⟨ret_bool HE.out.symm, (below_drewN hB1.out 1).trans (hb3.mono hB1.out.size)⟩
    · have e6 : (fr.sort == 6) = false := by simp [g6]
      have HE := hide (show tb (tk.fit fr) = tb ((tk.kids[0]'hp).fit fr) from congrArg tb (propext (hfit.out.trans ⟨fun h => (h.1 h6 hp).2 g6, fun h => ⟨fun _ _ => ⟨fun e => absurd e g6, fun _ => h⟩, fun e => absurd h6 e⟩⟩)))
      clear h6 g6
      obtain ⟨gb, offb, wsb, fib, rfl, hgmb, hfib, hwlb, hcsb, hovb⟩ := (X2.out.below hB1.out hg.right).elem Kind.cells_len hp
      have HOb := hide hovb
      have HFb := hide (((hg.right).up hB1.out).sub hfib)
      have HGb := hide (Kind.kid_good HGT.out hp)
      have hbb := Nat.le_trans (Kind.kid_bulk hp) hbt
      have hglb := hg.right _ hgmb
      have hgwb := Nat.lt_of_lt_of_le hglb hB1.out.size
      obtain ⟨C1b, m1b, C2b, m2b, s1b, s2b, rfl, n0b, l1b, l2b, rfl⟩ := hovb.oKind
      have p0b := hcsb 0 _ rfl
      have p1b := hcsb 1 _ rfl
      have p2b := hcsb 2 _ rfl
      simp only [Nat.zero_mul, Nat.add_zero] at p0b p1b p2b
      clear hcsb hovb l1b l2b hfib
      have lk := RK.lt
      have lt := RT.lt
      have k0 := RK.cell 0
      have k1 := RK.cell 1
      have k2 := RK.cell 2
      have t0 := RT.cell 0
      have t2 := RT.cell 2
      generalize tk.kids[0] = y at *
      go_enter Try.func82, Try.ntmps82
      go_wp2_with fail
      generalize ((w.alloc (.cells #[.int .i64 fr.sort, .slice A1 fr.names.length c1, .slice A2 fr.kids.length c2] 30)).alloc (.cells #[.int .i64 tk.sort, .slice B1 tk.names.length d1, .slice (some ⟨gb, offb, none⟩) tk.kids.length d2] 30)) = W2 at *
      go_still_tail 5, (by kernel_rfl)
      change wpList _ _ _ _ _ W2.drew
      go_wp2_with fail
      refine (HC.out fr _ _ _ _ lv (lw + 1) _ ((HK.out.below hB1.out hf).drewN 1) (HOb.out.drewN 1) ((hf.up hB1.out).mono (Nat.le_refl _)) HFb.out hbk hbb HGK.out HGb.out).mono ?_
      rintro e w3 ⟨rfl, hb3⟩
      go_wp2
      go_ret
      exact ⟨ret_bool HE.out.symm, (below_drewN hB1.out 1).trans (hb3.mono hB1.out.size)⟩
  · have b6 : (tk.sort == 6) = false := by simp [h6]
    by_cases hs : fr.sort = tk.sort
    · have e6 : (fr.sort == 6) = false := by simp [hs, h6]
      have bs : (fr.sort != tk.sort) = false := by simp [hs]
      by_cases h4 : tk.sort = 4
      · have b4 : (tk.sort == 4) = true := by simp [h4]
        have e4 : (fr.sort == 4) = true := by simp [hs, h4]
        have hp : 0 < tk.kids.length := by have := hst.out; omega
        have hp2 : 0 < fr.kids.length := by have := hsk.out; omega
        have HC := hide (HI.out _ (List.getElem_mem hp))
        have HE := hide (show tb (tk.fit fr) = tb ((tk.kids[0]'hp).fit (fr.kids[0]'hp2)) from congrArg tb (propext (hfit.out.trans ⟨fun h => ((h.2 h6).2.1 h4 hp hp2), fun h => ⟨fun e => absurd e h6, fun _ => ⟨hs, fun _ _ _ => h, fun e => absurd h4 e⟩⟩⟩)))
        clear h6 h4 hs
        obtain ⟨ga, offa, wsa, fia, rfl, hgma, hfia, hwla, hcsa, hova⟩ := (O2.out.below hB1.out hf.right).elem Kind.cells_len hp2
        have HOa := hide hova
        have HFa := hide (((hf.right).up hB1.out).sub hfia)
        have HGa := hide (Kind.kid_good HGK.out hp2)
        have hba := Nat.le_trans (Kind.kid_bulk hp2) hbk
        have hgla := hf.right _ hgma
        have hgwa := Nat.lt_of_lt_of_le hgla hB1.out.size
        obtain ⟨C1a, m1a, C2a, m2a, s1a, s2a, rfl, n0a, l1a, l2a, rfl⟩ := hova.oKind
        have p0a := hcsa 0 _ rfl
        have p1a := hcsa 1 _ rfl
        have p2a := hcsa 2 _ rfl
        simp only [Nat.zero_mul, Nat.add_zero] at p0a p1a p2a
        clear hcsa hova l1a l2a hfia
        obtain ⟨gb, offb, wsb, fib, rfl, hgmb, hfib, hwlb, hcsb, hovb⟩ := (X2.out.below hB1.out hg.right).elem Kind.cells_len hp
        have HOb := hide hovb
        have HFb := hide (((hg.right).up hB1.out).sub hfib)
        have HGb := hide (Kind.kid_good HGT.out hp)
        have hbb := Nat.le_trans (Kind.kid_bulk hp) hbt
        have hglb := hg.right _ hgmb
        have hgwb := Nat.lt_of_lt_of_le hglb hB1.out.size
        obtain ⟨C1b, m1b, C2b, m2b, s1b, s2b, rfl, n0b, l1b, l2b, rfl⟩ := hovb.oKind
        have p0b := hcsb 0 _ rfl
        have p1b := hcsb 1 _ rfl
        have p2b := hcsb 2 _ rfl
        simp only [Nat.zero_mul, Nat.add_zero] at p0b p1b p2b
        clear hcsb hovb l1b l2b hfib
        have lk := RK.lt
        have lt := RT.lt
        have k0 := RK.cell 0
        have k2 := RK.cell 2
        have t0 := RT.cell 0
        have t2 := RT.cell 2
        generalize tk.kids[0] = y at *
        generalize fr.kids[0] = x at *
        go_enter Try.func82, Try.ntmps82
        go_wp2_with fail
        generalize ((w.alloc (.cells #[.int .i64 fr.sort, .slice A1 fr.names.length c1, .slice (some ⟨ga, offa, none⟩) fr.kids.length c2] 30)).alloc (.cells #[.int .i64 tk.sort, .slice B1 tk.names.length d1, .slice (some ⟨gb, offb, none⟩) tk.kids.length d2] 30)) = W2 at *
        go_still_tail 8, (by kernel_rfl)
        change wpList _ _ _ _ _ W2.drew
        go_wp2_with fail
        refine (HC.out x _ _ _ _ (lv + 1) (lw + 1) _ (HOa.out.drewN 1) (HOb.out.drewN 1) HFa.out HFb.out hba hbb HGa.out HGb.out).mono ?_
        rintro e w3 ⟨rfl, hb3⟩
        go_wp2
        go_ret
        exact ⟨ret_bool HE.out.symm, (below_drewN hB1.out 1).trans (hb3.mono hB1.out.size)⟩
      · have b4 : (tk.sort == 4) = false := by simp [h4]
        have e4 : (fr.sort == 4) = false := by simp [hs, h4]
        have hna : Hid (NamesOk fr.names ∧ fr.names.length = fr.kids.length) := by
          have h := hsk.out
          by_cases h5 : fr.sort = 5
          · exact hide (by rcases h with h | h | h <;> first | (exact ⟨h.2.1, h.2.2⟩) | omega)
          · have h1 : fr.names.length = 0 := by omega
            exact hide ⟨fun i hi => absurd hi (by omega), by omega⟩
        have hnb : Hid (NamesOk tk.names ∧ tk.names.length = tk.kids.length) := by
          have h := hst.out
          by_cases h5 : tk.sort = 5
          · exact hide (by rcases h with h | h | h <;> first | (exact ⟨h.2.1, h.2.2⟩) | omega)
          · have h1 : tk.names.length = 0 := by omega
            exact hide ⟨fun i hi => absurd hi (by omega), by omega⟩
        have hfit2 := hide (hfit.out.trans ⟨fun h => ((h.2 h6).2.2 h4), fun h => ⟨fun e => absurd e h6, fun _ => ⟨hs, fun e => absurd e h4, fun _ => h⟩⟩⟩)
        clear h6 h4 hs hsk hst hfit
        have lk := RK.lt
        have lt := RT.lt
        have k0 := RK.cell 0
        have k1 := RK.cell 1
        have k2 := RK.cell 2
        have t0 := RT.cell 0
        have t1 := RT.cell 1
        have t2 := RT.cell 2
        go_enter Try.func82, Try.ntmps82
        go_wp2
        go_loopw [5, 60] (fun mn i wr => (∃ j : Nat, j ≤ tk.names.length ∧ i = .int .i64 j ∧ mn = .int .i64 (((tk.names.take j).filter (fun x => tb (x ∈ fr.names))).length : Int) ∧ ∀ a (h : a < tk.names.length) (h2 : a < tk.kids.length), a < j → (∀ k (h1 : k < fr.kids.length) (h3 : k < fr.names.length), fr.names[k] = tk.names[a] → tk.kids[a].fit fr.kids[k]) ∧ (¬ tk.names[a] ∈ fr.names → tk.kids[a].sort = 6)) ∧ Below w.heap.size w wr ∧ Row wr w.heap.size 30 [.int .i64 fr.sort, .slice A1 fr.names.length c1, .slice A2 fr.kids.length c2] ∧ Row wr (w.heap.size + 1) 30 [.int .i64 tk.sort, .slice B1 tk.names.length d1, .slice B2 tk.kids.length d2]) (fun _ i _ => tk.names.length - (intOf i).toNat)
        case atStart => exact ⟨⟨0, Nat.zero_le _, rfl, rfl, fun a h1 h2 h => absurd h (by omega)⟩, hB1.out, RK, RT⟩
        case round =>
          clear lk lt k0 k1 k2 t0 t1 t2
          obtain ⟨⟨j, hj, rfl, rfl, ha⟩, hbw, RKw, RTw⟩ := hrel
          have HA := hide ha
          have HB := hide hbw
          have hms := many_le tk.names fr.names j
          clear ha hbw
          have lk := RKw.lt
          have lt := RTw.lt
          have k0 := RKw.cell 0
          have k1 := RKw.cell 1
          have k2 := RKw.cell 2
          have t0 := RTw.cell 0
          have t1 := RTw.cell 1
          have t2 := RTw.cell 2
          by_cases hlt : j < tk.names.length
          · have hlt2 : j < tk.kids.length := by have := hnb.out.2; omega
            obtain ⟨g, off, rfl, hgm, hcell, hs1⟩ := strs_at (X1.out.below HB.out hg.left) hlt
            have hcont := hide (fun w' (hb : Below wr.heap.size wr w') => bsName_any fr.names A1 _ c1 _ (tk.names[j]) w' hna.out.1 ((O1.out.below HB.out hf.left).below hb (hf.left.up HB.out)) (by omega))
            have hnx := hide (fun (h : (∀ k (h1 : k < fr.kids.length) (h3 : k < fr.names.length), fr.names[k] = tk.names[j] → tk.kids[j].fit fr.kids[k]) ∧ (¬ tk.names[j] ∈ fr.names → tk.kids[j].sort = 6)) (a : Nat) (h1 : a < tk.names.length) (h2 : a < tk.kids.length) (hl : a < j + 1) => show (∀ k (h1 : k < fr.kids.length) (h3 : k < fr.names.length), fr.names[k] = tk.names[a] → tk.kids[a].fit fr.kids[k]) ∧ (¬ tk.names[a] ∈ fr.names → tk.kids[a].sort = 6) from by
              by_cases e : a < j
              · exact HA.out a h1 h2 e
              · obtain rfl : a = j := by omega
                exact h)
            have hbad1 := hide (fun (h : ¬ tk.names[j] ∈ fr.names) (h' : ¬ tk.kids[j].sort = 6) => tb_false (p := tk.fit fr) (fun ht => h' (((hfit2.out.1 ht).1 j hlt2 hlt).2 h)))
            have hbad2 := hide (fun k (h1 : k < fr.kids.length) (h2 : k < fr.names.length) (e : fr.names[k] = tk.names[j]) (h : ¬ tk.kids[j].fit fr.kids[k]) => tb_false (p := tk.fit fr) (fun ht => h (((hfit2.out.1 ht).1 j hlt2 hlt).1 k h1 h2 e)))
            have hu := hide (fun b (h1 : b < fr.names.length) (e : fr.names[b] = tk.names[j]) b' (h1' : b' < fr.names.length) (e' : fr.names[b'] = tk.names[j]) => show b = b' from names_inj hna.out.1 h1 h1' (e.trans e'.symm))
            have hmn := hide (many_step tk.names fr.names j hlt)
            have HC := hide (HI.out _ (List.getElem_mem hlt2))
            obtain ⟨gb, offb, wsb, fib, rfl, hgmb, hfib, hwlb, hcsb, hovb⟩ := (X2.out.below HB.out hg.right).elem Kind.cells_len hlt2
            have HOb := hide hovb
            have HFb := hide (((hg.right).up HB.out).sub hfib)
            have HGb := hide (Kind.kid_good HGT.out hlt2)
            have hbb := Nat.le_trans (Kind.kid_bulk hlt2) hbt
            have hglb := hg.right _ hgmb
            have hgwb := Nat.lt_of_lt_of_le hglb HB.out.size
            obtain ⟨C1b, m1b, C2b, m2b, s1b, s2b, rfl, n0b, l1b, l2b, rfl⟩ := hovb.oKind
            have p0b := hcsb 0 _ rfl
            have p1b := hcsb 1 _ rfl
            have p2b := hcsb 2 _ rfl
            simp only [Nat.add_zero] at p0b
            clear hcsb hovb l1b l2b hfib
            generalize tk.names[j] = nm at *
            generalize tk.kids[j] = y at *
            generalize hM : (((tk.names.take j).filter (fun x => tb (x ∈ fr.names))).length) = M at *
            clear hM
            go_wp2_with fail
            refine (hcont.out _ (by first | exact Below.refl _ _ | exact below_drewN (Below.refl _ _) _)).mono ?_
            rintro e w2 ⟨⟨k, rfl, hyes⟩, hq⟩
            have hbq : Below wr.heap.size wr w2 := by obtain ⟨q, rfl⟩ := hq; exact below_drewN (Below.refl _ _) q
            have HB2 := hide (HB.out.trans (hbq.mono HB.out.size))
            have RK2 := RKw.below hbq lk
            have RT2 := RTw.below hbq lt
            have pp0 := (hbq.cell (p := ⟨gb, offb + j * 3, none⟩) hgwb).trans p0b
            have pp1 := (hbq.cell (p := ⟨gb, offb + j * 3 + 1, none⟩) hgwb).trans p1b
            have pp2 := (hbq.cell (p := ⟨gb, offb + j * 3 + 2, none⟩) hgwb).trans p2b
            have hgb2 := Nat.lt_of_lt_of_le hgwb hbq.size
            have HOb2 := hide ((HOb.out.below hbq HFb.out))
            have HFb2 := hide (HFb.out.up hbq)
            clear hq hbq lk lt k0 k1 k2 t0 t1 t2 p0b p1b p2b RKw RTw
            have lk := RK2.lt
            have lt := RT2.lt
            have k0 := RK2.cell 0
            have k1 := RK2.cell 1
            have k2 := RK2.cell 2
            have t0 := RT2.cell 0
            have t1 := RT2.cell 1
            have t2 := RT2.cell 2
            by_cases hin : nm ∈ fr.names
            · rw [tb_true hin]
              obtain ⟨h2, eb⟩ := hyes hin
              have h1 : k < fr.kids.length := by have := hna.out.2; omega
              obtain ⟨ga, offa, wsa, fia, rfl, hgma, hfia, hwla, hcsa, hova⟩ := (O2.out.below HB2.out hf.right).elem Kind.cells_len h1
              have HOa := hide hova
              have HFa := hide (((hf.right).up HB2.out).sub hfia)
              have HGa := hide (Kind.kid_good HGK.out h1)
              have hba := Nat.le_trans (Kind.kid_bulk h1) hbk
              have hgla := hf.right _ hgma
              have hgwa := Nat.lt_of_lt_of_le hgla HB2.out.size
              obtain ⟨C1a, m1a, C2a, m2a, s1a, s2a, rfl, n0a, l1a, l2a, rfl⟩ := hova.oKind
              have p0a := hcsa 0 _ rfl
              have p1a := hcsa 1 _ rfl
              have p2a := hcsa 2 _ rfl
              simp only [Nat.add_zero] at p0a
              clear hcsa hova l1a l2a hfia
              have HM := hide (hmn.out.trans (by rw [if_pos (tb_true hin)]))
              have HX1 := hide (hnx.out)
              have HX2 := hide (hbad2.out k h1 h2 eb)
              have HX3 := hide (hu.out k h2 eb)
              have HIN := hide hin
              clear hyes hin hmn eb
              generalize hx : fr.kids[k] = x at *
              have HX := hide hx
              clear hx
              go_wp2_with fail
              go_still_tail 12, (by kernel_rfl)
              change wpList _ _ _ _ _ w2.drew
              go_wp2_with fail
              refine (HC.out x _ _ _ _ (lv + 1) (lw + 1) _ (HOa.out.drewN 1) (HOb2.out.drewN 1) (HFa.out.mono (Nat.le_refl _)) (HFb2.out.mono (Nat.le_refl _)) hba hbb HGa.out HGb.out).mono ?_
              rintro e w3 ⟨rfl, hb3⟩
              have hb4 : Below w2.heap.size w2 w3 := (below_drewN (Below.refl _ w2) 1).trans hb3
              have RK3 := RK2.below hb4 lk
              have RT3 := RT2.below hb4 lt
              have HB3 := hide (HB2.out.trans (hb4.mono HB2.out.size))
              by_cases hfx : y.fit x
              · rw [tb_true hfx]
                have HZ := hide (HX1.out ⟨fun k' h1' h2' e' => by obtain rfl := HX3.out k' h2' e'; rw [HX.out]; exact hfx, fun h => absurd HIN.out h⟩)
                clear hfx hb4 hb3
                go_wp2
                go_roundw
                case rel => exact ⟨⟨j + 1, by omega, by go_num, by rw [HM.out]; go_num, HZ.out⟩, HB3.out, RK3, RT3⟩
                case measure => simp [intOf]; omega
              · rw [tb_false hfx]
                have HZ := hide (HX2.out hfx)
                clear hfx
                go_wp2
                go_ret
                exact ⟨ret_bool HZ.out.symm, HB3.out⟩
            · rw [tb_false hin]
              have HM := hide (hmn.out.trans (by rw [if_neg (by rw [tb_false hin]; simp)]))
              have HX1 := hide (hnx.out)
              have HX2 := hide (hbad1.out hin)
              have HIN := hide hin
              have HE := hide (fun k (h1 : k < fr.names.length) (e : fr.names[k] = nm) => show False from hin (e ▸ List.getElem_mem h1))
              clear hyes hin hmn
              by_cases hy : y.sort = 6
              · have by6 : (y.sort != 6) = false := by simp [hy]
                have HZ := hide (HX1.out ⟨fun k' h1' h2' e' => (HE.out k' h2' e').elim, fun _ => hy⟩)
                clear hy
                go_wp2
                go_quiet (fail)
                go_wp2
                go_roundw
                case rel => exact ⟨⟨j + 1, by omega, by go_num, by rw [HM.out]; go_num, HZ.out⟩, by first | exact HB2.out | exact below_drewN HB2.out _, by first | exact RK2 | exact RK2.drewN _, by first | exact RT2 | exact RT2.drewN _⟩
                case measure => simp [intOf]; omega
              · have by6 : (y.sort != 6) = true := by simp [hy]
                have HZ := hide (HX2.out hy)
                clear hy
                go_wp2
                go_quiet (fail)
                go_wp2
                go_ret
                exact ⟨ret_bool HZ.out.symm, by first | exact HB2.out | exact below_drewN HB2.out _⟩
          · obtain rfl : j = tk.names.length := by omega
            rw [List.take_length] at *
            have hall := hide (many_iff hnb.out.1 hna.out.1)
            have HT : Hid (tb (tk.fit fr) = decide ((tk.names.filter (fun x => tb (x ∈ fr.names))).length = fr.names.length)) := by
              have hi := hfit2.out.trans ⟨fun h => hall.out.2 h.2, fun h => ⟨fun i hi h2 => ⟨fun k h1 h3 e => (HA.out i h2 hi h2).1 k h1 h3 e, fun hn => (HA.out i h2 hi h2).2 hn⟩, hall.out.1 h⟩⟩
              by_cases h : (tk.names.filter (fun x => tb (x ∈ fr.names))).length = fr.names.length
              · exact hide (by rw [decide_eq_true h, tb_true (hi.2 h)])
              · exact hide (by rw [decide_eq_false h, tb_false (fun e => h (hi.1 e))])
            generalize (tk.names.filter (fun x => tb (x ∈ fr.names))).length = M at *
            by_cases hM : M = fr.names.length
            · have HT2 := hide (HT.out.trans (decide_eq_true hM))
              have bm : ((M : Int) == (fr.names.length : Int)) = true := by simp [hM]
              clear hM
              go_wp2
              go_ret
              exact ⟨ret_bool HT2.out.symm, HB.out⟩
            · have HT2 := hide (HT.out.trans (decide_eq_false hM))
              have bm : ((M : Int) == (fr.names.length : Int)) = false := by simp; omega
              clear hM
              go_wp2
              go_ret
              exact ⟨ret_bool HT2.out.symm, HB.out⟩
    · have bs : (fr.sort != tk.sort) = true := by simp [hs]
      have HT := hide (tb_false (p := tk.fit fr) (fun h => hs ((hfit.out.1 h).2 h6).1))
      have k0 := RK.cell 0
      have t0 := RT.cell 0
      have e6 : (fr.sort == 6) = false ∨ (fr.sort == 6) = true := by cases (fr.sort == 6) <;> simp
      clear hs h6
      rcases e6 with e6 | e6
      all_goals
        go_enter Try.func82, Try.ntmps82
        go_wp2
        go_ret
        exact ⟨ret_bool HT.out.symm, hB1.out⟩
theorem fitI_any (k : Kind) : FitI k := Kind.ind fitI_of k
end Go.Proofs.Ytdingkbggjehoaa
