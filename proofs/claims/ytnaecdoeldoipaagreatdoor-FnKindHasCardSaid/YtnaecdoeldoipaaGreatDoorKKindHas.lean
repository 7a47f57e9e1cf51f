/-
  Go's library on slices that read as data: Equal, Clone and Contains of this program's text. KindHas of the program: has. KindHas: the program's and the reference's answer alike.
-/
import Derived.Test.YtnaecdoeldoipaaGreatDoorKDTree
import Derived.Test.YtnaecdoeldoipaaGreatDoorKOwn
import Derived.Test.YtnaecdoeldoipaaGreatDoorKRead
import Derived.Test.YtnaecdoeldoipaaGreatDoorKKid
import Derived.Test.YtnaecdoeldoipaaGreatDoorKShelf
set_option linter.unusedVariables false
set_option linter.unusedSimpArgs false
namespace Go.Proofs.YtnaecdoeldoipaaGreatDoor
open Go.ChangeShapes Go.WideShapes Go.ChangeAt Go.RowKit

theorem strs_all {w : World} {l : List ByteArray} {g off n c : Nat} {fp : List Nat} (h : Ow w (.s 1 l.length (l.flatMap strC)) (.slice (some ⟨g, off, none⟩) n c) fp) :
    ∀ j, j < l.length → w.cell? ⟨g, off + j, none⟩ = some (.string (l.getD j ByteArray.empty)) := fun j hj => by
  obtain ⟨g', off', e, _, hc, _⟩ := strs_at h hj
  injection e with e
  injection e with e1 e2
  subst e1 e2
  rw [hc, List.getD_eq_getElem?_getD, List.getElem?_eq_getElem hj]
  rfl
theorem tb_dec {p : Prop} [Decidable p] : decide p = tb p := by
  by_cases h : p
  · rw [tb_true h]; simpa using h
  · rw [tb_false h]; simpa using h

theorem equalStr_any (l l' : List ByteArray) (A A' : Option Addr) (n n' c c' : Nat) (fp fp' : List Nat) (w : World) (h : Ow w (.s 1 l.length (l.flatMap strC)) (.slice A n c) fp) (h' : Ow w (.s 1 l'.length (l'.flatMap strC)) (.slice A' n' c') fp') :
    Calls Tryz.prog 113 #[.slice A n c, .slice A' n' c'] w fun e w' => e = .returned (.bool (tb (l = l'))) ∧ Below w.heap.size w w' := by
  obtain ⟨rfl, hc, hm⟩ := h.nlen
  obtain ⟨rfl, hc', hm'⟩ := h'.nlen
  unfold maxLen at hm hm'
  by_cases hl : l.length = l'.length
  · by_cases h0 : l.length = 0
    · have e1 : l = [] := List.eq_nil_of_length_eq_zero h0
      have e2 : l' = [] := List.eq_nil_of_length_eq_zero (by omega)
      subst e1 e2
      refine (Tryz.slices_Equal_string_empty A A' c 0 c' w (by omega)).mono ?_
      rintro e w' ⟨rfl, rfl⟩
      exact ⟨by rw [tb_true rfl]; rfl, Below.refl _ _⟩
    · obtain ⟨g, off, rfl, _, _, _⟩ := strs_at h (i := 0) (by omega)
      obtain ⟨g', off', rfl, _, _, _⟩ := strs_at h' (i := 0) (by omega)
      refine (Tryz.slices_Equal_string g off l.length c g' off' l'.length c' l l' w (Nat.le_refl _) (Nat.le_refl _) (by omega) (by omega) (strs_all h) (strs_all h')).mono ?_
      rintro e w' ⟨rfl, q, rfl⟩
      exact ⟨by rw [List.take_length, List.take_length, tb_dec], below_drewN (Below.refl _ _) q⟩
  · refine (Tryz.slices_Equal_string_lens A A' l.length c l'.length c' w hl).mono ?_
    rintro e w' ⟨rfl, rfl⟩
    exact ⟨by rw [tb_false (fun e => hl (by rw [e]))], Below.refl _ _⟩
end Go.Proofs.YtnaecdoeldoipaaGreatDoor
set_option linter.unusedVariables false
set_option linter.unusedSimpArgs false
namespace Go.Proofs.YtnaecdoeldoipaaGreatDoor
open Go.ChangeShapes Go.WideShapes Go.ChangeAt Go.RowKit

def HasI (t : Tree) : Prop := ∀ (k : Kind) (us vs : List Value) (fp fq : List Nat) (lv lw : Nat) (w : World), OwC w k.cells us fp → OwC w t.cells vs fq → Lt fp w.heap.size → Lt fq w.heap.size → k.bulk ≤ 1048576 → t.bulk ≤ 1048576 → k.good lv → t.good lw →
  Calls Tryz.prog 61 #[.agg us.toArray, .agg vs.toArray] w fun e w' => e = .returned (.bool (tb (t.of k))) ∧ Below w.heap.size w w'

set_option maxRecDepth 100000 in
set_option maxHeartbeats 2000000 in
theorem hasI_of (t : Tree) (ih : ∀ x ∈ t.kids, HasI x) : HasI t := by
  intro k us vs fp fq lv lw w hk ht hf hg hbk hbt hgk hgt
  obtain ⟨A1, c1, A2, c2, f1, f2, rfl, w0, o1, o2, rfl⟩ := hk.oKind
  obtain ⟨B1, d1, B2, d2, q1, q2, rfl, v0, v1, v2, x1, x2, rfl⟩ := ht.oTree
  have hw1 : Below w.heap.size w ((w.alloc (.cells #[.int .i64 k.sort, .slice A1 k.names.length c1, .slice A2 k.kids.length c2] 38)).alloc (.cells #[.int .i64 t.sort, .int .i64 t.num, .string t.text, .slice B1 t.names.length d1, .slice B2 t.kids.length d2] 26)) := ((Below.refl w.heap.size w).alloc (Nat.le_refl _) _).alloc (by simp) _
  have RK : Row ((w.alloc (.cells #[.int .i64 k.sort, .slice A1 k.names.length c1, .slice A2 k.kids.length c2] 38)).alloc (.cells #[.int .i64 t.sort, .int .i64 t.num, .string t.text, .slice B1 t.names.length d1, .slice B2 t.kids.length d2] 26)) w.heap.size 38 [.int .i64 k.sort, .slice A1 k.names.length c1, .slice A2 k.kids.length c2] := (Row.new w _ _).alloc _
  have RT : Row ((w.alloc (.cells #[.int .i64 k.sort, .slice A1 k.names.length c1, .slice A2 k.kids.length c2] 38)).alloc (.cells #[.int .i64 t.sort, .int .i64 t.num, .string t.text, .slice B1 t.names.length d1, .slice B2 t.kids.length d2] 26)) (w.heap.size + 1) 26 [.int .i64 t.sort, .int .i64 t.num, .string t.text, .slice B1 t.names.length d1, .slice B2 t.kids.length d2] := by
    have h := Row.new (w.alloc (.cells #[.int .i64 k.sort, .slice A1 k.names.length c1, .slice A2 k.kids.length c2] 38)) 26 [.int .i64 t.sort, .int .i64 t.num, .string t.text, .slice B1 t.names.length d1, .slice B2 t.kids.length d2]
    rw [World.size_alloc] at h
    exact h
  have hof := hide (t.of_iff k)
  have hkb := k.bulk_eq; unfold bulkStrs at hkb
  have htb := t.bulk_eq; unfold bulkStrs at htb
  have hB1 := hide hw1
  have O1 := hide o1
  have O2 := hide o2
  have X1 := hide x1
  have X2 := hide x2
  have HI := hide ih
  have HGK := hide hgk
  have HGT := hide hgt
  have lk1 := RK.lt
  have lt1 := RT.lt
  have hsk := hide ((k.shape_iff).1 ((Kind.good_iff _ _).1 hgk).2.1)
  have hst := hide (show t.shape from ((Tree.good_iff _ _).1 hgt).2.1)
  clear hk ht o1 o2 x1 x2 hw1 ih hgk hgt
  by_cases hs : k.sort = t.sort
  · have hb0 : (k.sort != t.sort) = false := by simp [hs]
    have HS := hide hs
    by_cases h5 : k.sort = 5
    · have b5 : (k.sort == 5) = true := by simp [h5]
      have H5 := hide h5
      clear hs h5
      go_enter Tryz.func61, Tryz.ntmps61
      go_wp2_with fail
      refine (equalStr_any k.names t.names _ _ _ _ _ _ _ _ _ (O1.out.below hB1.out hf.left) (X1.out.below hB1.out hg.left)).mono ?_
      rintro e w2 ⟨rfl, hb2⟩
      have HB2 := hide (hB1.out.trans (hb2.mono hB1.out.size))
      have RK2 := RK.below hb2 RK.lt
      have RT2 := RT.below hb2 RT.lt
      clear RK RT lk1 lt1
      have m0 := RT2.cell 4
      have m1 := RT2.lt
      by_cases hn : k.names = t.names
      · rw [tb_true hn]
        have HE := hide hn
        clear hn
        go_wp2
        go_loopw [29] (fun i wr => (∃ j : Nat, j ≤ t.kids.length ∧ i = .int .i64 j ∧ ∀ a (h : a < t.kids.length), a < j → t.kids[a].of (k.pick a)) ∧ Below w.heap.size w wr ∧ Row wr w.heap.size 38 [.int .i64 k.sort, .slice A1 k.names.length c1, .slice A2 k.kids.length c2]) (fun i _ => t.kids.length - (intOf i).toNat)
        case atStart => exact ⟨⟨0, Nat.zero_le _, rfl, fun a h1 h => absurd h (by omega)⟩, HB2.out, RK2⟩
        case round =>
          obtain ⟨⟨j, hj, rfl, ha⟩, hbw, RKw⟩ := hrel
          have HA2 := hide ha
          have HB := hide hbw
          have lk := RKw.lt
          clear ha hbw m0 m1 RT2 RK2
          by_cases hlt : j < t.kids.length
          · have hnl : k.names.length = t.names.length := by rw [HE.out]
            obtain ⟨hpos, hpl, hpick⟩ := Kind.pick_at HGK.out ((Tree.good_iff _ _).1 HGT.out).2.1 HS.out hnl hlt
            clear hnl
            obtain ⟨g, off, ws, fi, rfl, hgm, hfi, hwl, hcs, hov⟩ := (X2.out.below HB.out hg.right).elem Tree.cells_len hlt
            obtain ⟨g', off', ws', fi', rfl, hgm', hfi', hwl', hcs', hov'⟩ := (O2.out.below HB.out hf.right).elem Kind.cells_len hpos
            have HOT := hide hov
            have HFT := hide (((hg.right).up HB.out).sub hfi)
            have hgl := hg.right _ hgm
            have hgl' := hf.right _ hgm'
            have hgw := Nat.lt_of_lt_of_le hgl HB.out.size
            have hgw' := Nat.lt_of_lt_of_le hgl' HB.out.size
            have HC := hide (HI.out _ (List.getElem_mem hlt))
            have HTG := hide (Tree.kid_good HGT.out hlt)
            have htb1 := Nat.le_trans (Tree.kid_bulk hlt) hbt
            obtain ⟨D1, e1, D2, e2, r1, r2, rfl, y0, y1, y2, z1, z2, rfl⟩ := hov.oTree
            have p0 := hcs 0 _ rfl
            have p1 := hcs 1 _ rfl
            have p2 := hcs 2 _ rfl
            have p3 := hcs 3 _ rfl
            have p4 := hcs 4 _ rfl
            simp only [Nat.add_zero] at p0
            have hnext := hide (fun (h : t.kids[j].of (k.pick j)) (a : Nat) (ha : a < t.kids.length) (hl : a < j + 1) => show t.kids[a].of (k.pick a) from by
              by_cases e : a < j
              · exact HA2.out a ha e
              · obtain rfl : a = j := by omega
                exact h)
            have hbad := hide (fun (h : ¬ t.kids[j].of (k.pick j)) => tb_false (p := t.of k) (fun ht => h ((hof.out.1 ht).2.2 j hlt)))
            clear hcs hov z1 z2 hfi
            have hpl2 : j < k.kids.length := by simpa [H5.out] using hpl
            have hpick2 : k.pick j = k.kids[j]'hpl2 := by rw [hpick]; simp [H5.out]
            clear hpick hpl
            have hpl := hpl2
            obtain ⟨_, _, ws2, fi2, e3, _, hfi2, hwl2, hcs2, hov2⟩ := (O2.out.below HB.out hf.right).elem Kind.cells_len hpl
            injection e3 with e3
            injection e3 with e3 e4
            subst e3 e4
            have HOK := hide hov2
            have HFK := hide (((hf.right).up HB.out).sub hfi2)
            have HKG := hide (Kind.kid_good HGK.out hpl)
            have hkb1 := Nat.le_trans (Kind.kid_bulk hpl) hbk
            obtain ⟨C1, m1, C2, m2, s1, s2, rfl, n0, l1, l2, rfl⟩ := hov'.oKind
            obtain ⟨E1, n1, E2, n2, s3, s4, rfl, n3, l3, l4, rfl⟩ := hov2.oKind
            have i0 := hcs' 0 _ rfl
            have i1 := hcs' 1 _ rfl
            have i2 := hcs' 2 _ rfl
            simp only [Nat.zero_mul, Nat.add_zero] at i0 i1 i2
            have j0 := hcs2 0 _ rfl
            have j1 := hcs2 1 _ rfl
            have j2 := hcs2 2 _ rfl
            simp only [Nat.add_zero] at j0
            clear hcs' hcs2 hov' hov2 l1 l2 l3 l4
            rw [hpick2] at hnext hbad
            clear hpick2
            generalize t.kids[j] = x at *
            generalize k.kids[j] = y at *
            generalize k.kids[0] = y0 at *
            have k0 := RKw.cell 0
            have k2 := RKw.cell 2
            go_wp2_with fail
            have hb2 : Below wr.heap.size wr ((wr.alloc (.cells #[.int .i64 x.sort, .int .i64 x.num, .string x.text, .slice D1 x.names.length e1, .slice D2 x.kids.length e2] 26)).alloc (.cells #[.int .i64 y.sort, .slice E1 y.names.length n1, .slice E2 y.kids.length n2] 38)) := ((Below.refl wr.heap.size wr).alloc (Nat.le_refl _) _).alloc (by simp) _
            refine (HC.out y _ _ _ _ (lv + 1) (lw + 1) _ (HOK.out.below hb2 HFK.out) (HOT.out.below hb2 HFT.out) (HFK.out.mono hb2.size) (HFT.out.mono hb2.size) hkb1 htb1 HKG.out HTG.out).mono ?_
            rintro e w3 ⟨rfl, hb3⟩
            have hb4 := hb2.trans (hb3.mono hb2.size)
            have hbz := hide (HB.out.trans (hb4.mono HB.out.size))
            have RK3 := RKw.below hb4 lk
            by_cases hx : x.of y
            · rw [tb_true hx]
              have HX := hide (hnext.out hx)
              clear hx
              go_wp2
              go_roundw
              case rel => exact ⟨⟨j + 1, by omega, by go_num, HX.out⟩, hbz.out, RK3⟩
              case measure => simp [intOf]; omega
            · rw [tb_false hx]
              have HX := hide (hbad.out hx)
              clear hx
              go_wp2
              go_ret
              exact ⟨ret_bool HX.out.symm, hbz.out⟩
          · obtain rfl : j = t.kids.length := by omega
            have HT := hide (tb_true (p := t.of k) (hof.out.2 ⟨HS.out, HE.out, fun a h => HA2.out a h h⟩))
            go_wp2
            go_ret
            exact ⟨ret_bool HT.out.symm, HB.out⟩
      · rw [tb_false hn]
        have HT := hide (tb_false (p := t.of k) (fun h => hn (hof.out.1 h).2.1))
        clear hn
        go_wp2
        go_ret
        exact ⟨ret_bool HT.out.symm, HB2.out⟩
    · have b5 : (k.sort == 5) = false := by simp [h5]
      have HE : Hid (k.names = t.names) := by
        have h1 := hsk.out
        have h2 := hst.out
        unfold Tree.shape at h2
        rw [List.eq_nil_of_length_eq_zero (l := k.names) (by omega), List.eq_nil_of_length_eq_zero (l := t.names) (by omega)]
        exact hide rfl
      have HB2 := hB1
      have RK2 := RK
      have RT2 := RT
      clear RK RT lk1 lt1
      have m0 := RT2.cell 4
      have m1 := RT2.lt
      clear hs h5
      go_enter Tryz.func61, Tryz.ntmps61
      go_wp2
      go_loopw [29] (fun i wr => (∃ j : Nat, j ≤ t.kids.length ∧ i = .int .i64 j ∧ ∀ a (h : a < t.kids.length), a < j → t.kids[a].of (k.pick a)) ∧ Below w.heap.size w wr ∧ Row wr w.heap.size 38 [.int .i64 k.sort, .slice A1 k.names.length c1, .slice A2 k.kids.length c2]) (fun i _ => t.kids.length - (intOf i).toNat)
      case atStart => exact ⟨⟨0, Nat.zero_le _, rfl, fun a h1 h => absurd h (by omega)⟩, HB2.out, RK2⟩
      case round =>
        obtain ⟨⟨j, hj, rfl, ha⟩, hbw, RKw⟩ := hrel
        have HA2 := hide ha
        have HB := hide hbw
        have lk := RKw.lt
        clear ha hbw m0 m1 RT2 RK2
        by_cases hlt : j < t.kids.length
        · have hnl : k.names.length = t.names.length := by rw [HE.out]
          obtain ⟨hpos, hpl, hpick⟩ := Kind.pick_at HGK.out ((Tree.good_iff _ _).1 HGT.out).2.1 HS.out hnl hlt
          clear hnl
          obtain ⟨g, off, ws, fi, rfl, hgm, hfi, hwl, hcs, hov⟩ := (X2.out.below HB.out hg.right).elem Tree.cells_len hlt
          obtain ⟨g', off', ws', fi', rfl, hgm', hfi', hwl', hcs', hov'⟩ := (O2.out.below HB.out hf.right).elem Kind.cells_len hpos
          have HOT := hide hov
          have HFT := hide (((hg.right).up HB.out).sub hfi)
          have hgl := hg.right _ hgm
          have hgl' := hf.right _ hgm'
          have hgw := Nat.lt_of_lt_of_le hgl HB.out.size
          have hgw' := Nat.lt_of_lt_of_le hgl' HB.out.size
          have HC := hide (HI.out _ (List.getElem_mem hlt))
          have HTG := hide (Tree.kid_good HGT.out hlt)
          have htb1 := Nat.le_trans (Tree.kid_bulk hlt) hbt
          obtain ⟨D1, e1, D2, e2, r1, r2, rfl, y0, y1, y2, z1, z2, rfl⟩ := hov.oTree
          have p0 := hcs 0 _ rfl
          have p1 := hcs 1 _ rfl
          have p2 := hcs 2 _ rfl
          have p3 := hcs 3 _ rfl
          have p4 := hcs 4 _ rfl
          simp only [Nat.add_zero] at p0
          have hnext := hide (fun (h : t.kids[j].of (k.pick j)) (a : Nat) (ha : a < t.kids.length) (hl : a < j + 1) => show t.kids[a].of (k.pick a) from by
            by_cases e : a < j
            · exact HA2.out a ha e
            · obtain rfl : a = j := by omega
              exact h)
          have hbad := hide (fun (h : ¬ t.kids[j].of (k.pick j)) => tb_false (p := t.of k) (fun ht => h ((hof.out.1 ht).2.2 j hlt)))
          clear hcs hov z1 z2 hfi
          have hpick2 : k.pick j = k.kids[0]'hpos := by rw [hpick]; simp [show k.sort ≠ 5 by simpa using b5]
          clear hpick hpl
          have HOK := hide hov'
          have HFK := hide (((hf.right).up HB.out).sub hfi')
          have HKG := hide (Kind.kid_good HGK.out hpos)
          have hkb1 := Nat.le_trans (Kind.kid_bulk hpos) hbk
          obtain ⟨C1, m1, C2, m2, s1, s2, rfl, n0, l1, l2, rfl⟩ := hov'.oKind
          have i0 := hcs' 0 _ rfl
          have i1 := hcs' 1 _ rfl
          have i2 := hcs' 2 _ rfl
          simp only [Nat.zero_mul, Nat.add_zero] at i0 i1 i2
          clear hcs' hov' l1 l2
          rw [hpick2] at hnext hbad
          clear hpick2
          generalize t.kids[j] = x at *
          generalize k.kids[0] = y at *
          have k0 := RKw.cell 0
          have k2 := RKw.cell 2
          go_wp2_with fail
          have hb2 : Below wr.heap.size wr ((wr.alloc (.cells #[.int .i64 x.sort, .int .i64 x.num, .string x.text, .slice D1 x.names.length e1, .slice D2 x.kids.length e2] 26)).alloc (.cells #[.int .i64 y.sort, .slice C1 y.names.length m1, .slice C2 y.kids.length m2] 38)) := ((Below.refl wr.heap.size wr).alloc (Nat.le_refl _) _).alloc (by simp) _
          refine (HC.out y _ _ _ _ (lv + 1) (lw + 1) _ (HOK.out.below hb2 HFK.out) (HOT.out.below hb2 HFT.out) (HFK.out.mono hb2.size) (HFT.out.mono hb2.size) hkb1 htb1 HKG.out HTG.out).mono ?_
          rintro e w3 ⟨rfl, hb3⟩
          have hb4 := hb2.trans (hb3.mono hb2.size)
          have hbz := hide (HB.out.trans (hb4.mono HB.out.size))
          have RK3 := RKw.below hb4 lk
          by_cases hx : x.of y
          · rw [tb_true hx]
            have HX := hide (hnext.out hx)
            clear hx
            go_wp2
            go_roundw
            case rel => exact ⟨⟨j + 1, by omega, by go_num, HX.out⟩, hbz.out, RK3⟩
            case measure => simp [intOf]; omega
          · rw [tb_false hx]
            have HX := hide (hbad.out hx)
            clear hx
            go_wp2
            go_ret
            exact ⟨ret_bool HX.out.symm, hbz.out⟩
        · obtain rfl : j = t.kids.length := by omega
          have HT := hide (tb_true (p := t.of k) (hof.out.2 ⟨HS.out, HE.out, fun a h => HA2.out a h h⟩))
          go_wp2
          go_ret
          exact ⟨ret_bool HT.out.symm, HB.out⟩
  · have hb0 : (k.sort != t.sort) = true := by simp [hs]
    have HT := hide (tb_false (p := t.of k) (fun h => hs (hof.out.1 h).1))
    clear hs
    go_enter Tryz.func61, Tryz.ntmps61
    go_wp2
    go_ret
    exact ⟨ret_bool HT.out.symm, hB1.out⟩
theorem hasI_any (t : Tree) : HasI t := Tree.ind hasI_of t
end Go.Proofs.YtnaecdoeldoipaaGreatDoor
set_option linter.unusedVariables false
set_option linter.unusedSimpArgs false
namespace Go.Proofs.YtnaecdoeldoipaaGreatDoor
open Go.ChangeShapes Go.WideShapes Go.ChangeAt Go.RowKit

set_option maxRecDepth 100000 in
theorem implKindHas_any (k : Kind) (us : List Value) (fp : List Nat) (t : Tree) (vs : List Value) (fq : List Nat) (w : World) (hk : OwC w k.cells us fp) (hf : Lt fp w.heap.size) (hbk : k.bulk ≤ 1048576) (ht : OwC w t.cells vs fq) (hg : Lt fq w.heap.size) (hbt : t.bulk ≤ 1048576) :
    Calls Tryz.prog 21 #[.agg us.toArray, .agg vs.toArray] w fun e w' => e = .returned (.bool (tb (k.ok ∧ t.ok ∧ t.of k))) ∧ Below w.heap.size w w' := by
  have HK := hide hk
  have HT := hide ht
  obtain ⟨A1, c1, A2, c2, f1, f2, rfl, w0, o1, o2, rfl⟩ := hk.oKind
  obtain ⟨B1, d1, B2, d2, q1, q2, rfl, v0, v1, v2, x1, x2, rfl⟩ := ht.oTree
  clear hk ht o1 o2 x1 x2
  have hw1 : Below w.heap.size w ((w.alloc (.cells #[.int .i64 k.sort, .slice A1 k.names.length c1, .slice A2 k.kids.length c2] 38)).alloc (.cells #[.int .i64 t.sort, .int .i64 t.num, .string t.text, .slice B1 t.names.length d1, .slice B2 t.kids.length d2] 26)) := ((Below.refl w.heap.size w).alloc (Nat.le_refl _) _).alloc (by simp) _
  have RK : Row ((w.alloc (.cells #[.int .i64 k.sort, .slice A1 k.names.length c1, .slice A2 k.kids.length c2] 38)).alloc (.cells #[.int .i64 t.sort, .int .i64 t.num, .string t.text, .slice B1 t.names.length d1, .slice B2 t.kids.length d2] 26)) w.heap.size 38 [.int .i64 k.sort, .slice A1 k.names.length c1, .slice A2 k.kids.length c2] := (Row.new w _ _).alloc _
  have RT : Row ((w.alloc (.cells #[.int .i64 k.sort, .slice A1 k.names.length c1, .slice A2 k.kids.length c2] 38)).alloc (.cells #[.int .i64 t.sort, .int .i64 t.num, .string t.text, .slice B1 t.names.length d1, .slice B2 t.kids.length d2] 26)) (w.heap.size + 1) 26 [.int .i64 t.sort, .int .i64 t.num, .string t.text, .slice B1 t.names.length d1, .slice B2 t.kids.length d2] := by
    have h := Row.new (w.alloc (.cells #[.int .i64 k.sort, .slice A1 k.names.length c1, .slice A2 k.kids.length c2] 38)) 26 [.int .i64 t.sort, .int .i64 t.num, .string t.text, .slice B1 t.names.length d1, .slice B2 t.kids.length d2]
    rw [World.size_alloc] at h
    exact h
  have B0 := hide hw1
  clear hw1
  go_enter Tryz.func21, Tryz.ntmps21
  go_wp2_with fail
  refine (implKindOk_any k _ _ _ (HK.out.below B0.out hf) (hf.up B0.out) hbk).mono ?_
  rintro e w2 ⟨rfl, hb2⟩
  have BB2 := hide (B0.out.trans (hb2.mono B0.out.size))
  have RK2 := RK.below hb2 RK.lt
  have RT2 := RT.below hb2 RT.lt
  clear RK RT hb2
  have lk := RK2.lt
  have lt := RT2.lt
  have t0 := RT2.cell 0
  have t1 := RT2.cell 1
  have t2 := RT2.cell 2
  have t3 := RT2.cell 3
  have t4 := RT2.cell 4
  by_cases hk : k.ok
  · rw [tb_true hk]
    have HK1 := hide hk
    clear hk
    go_wp2_with fail
    refine (implTreeOk_any t _ _ _ (HT.out.below BB2.out hg) (hg.up BB2.out) hbt).mono ?_
    rintro e w3 ⟨rfl, hb3⟩
    have BB3 := hide (BB2.out.trans (hb3.mono BB2.out.size))
    have RK3 := RK2.below hb3 lk
    have RT3 := RT2.below hb3 lt
    clear RK2 RT2 hb3 lk lt t0 t1 t2 t3 t4
    have lk := RK3.lt
    have lt := RT3.lt
    have k0 := RK3.cell 0
    have k1 := RK3.cell 1
    have k2 := RK3.cell 2
    have t0 := RT3.cell 0
    have t1 := RT3.cell 1
    have t2 := RT3.cell 2
    have t3 := RT3.cell 3
    have t4 := RT3.cell 4
    by_cases ht : t.ok
    · rw [tb_true ht]
      have HT1 := hide ht
      have HE := hide (show tb (k.ok ∧ t.ok ∧ t.of k) = tb (t.of k) from congrArg tb (propext ⟨fun h => h.2.2, fun h => ⟨HK1.out, ht, h⟩⟩))
      clear ht
      go_wp2_with fail
      refine (hasI_any t k _ _ _ _ 1 1 _ (HK.out.below BB3.out hf) (HT.out.below BB3.out hg) (hf.up BB3.out) (hg.up BB3.out) hbk hbt HK1.out.1 HT1.out.1).mono ?_
      rintro e w4 ⟨rfl, hb4⟩
      go_wp2
      go_ret
      exact ⟨ret_bool HE.out.symm, BB3.out.trans (hb4.mono BB3.out.size)⟩
    · rw [tb_false ht]
      have HE := hide (tb_false (p := k.ok ∧ t.ok ∧ t.of k) (fun h => ht h.2.1))
      clear ht
      go_wp2
      go_ret
      exact ⟨ret_bool HE.out.symm, BB3.out⟩
  · rw [tb_false hk]
    have HE := hide (tb_false (p := k.ok ∧ t.ok ∧ t.of k) (fun h => hk h.1))
    clear hk
    go_wp2
    go_ret
    exact ⟨ret_bool HE.out.symm, BB2.out⟩

set_option maxRecDepth 100000 in
theorem specKindHas_any (k : Kind) (us : List Value) (fp : List Nat) (t : Tree) (vs : List Value) (fq : List Nat) (w : World) (hk : OwC w k.cells us fp) (hf : Lt fp w.heap.size) (hbk : k.bulk ≤ 1048576) (ht : OwC w t.cells vs fq) (hg : Lt fq w.heap.size) (hbt : t.bulk ≤ 1048576) :
    Calls Tryz.prog 20 #[.agg us.toArray, .agg vs.toArray] w fun e w' => e = .returned (.bool (tb (k.ok ∧ t.ok ∧ t.of k))) ∧ Below w.heap.size w w' := by
  have HK := hide hk
  have HT := hide ht
  obtain ⟨A1, c1, A2, c2, f1, f2, rfl, w0, o1, o2, rfl⟩ := hk.oKind
  obtain ⟨B1, d1, B2, d2, q1, q2, rfl, v0, v1, v2, x1, x2, rfl⟩ := ht.oTree
  clear hk ht o1 o2 x1 x2
  have hw1 : Below w.heap.size w ((w.alloc (.cells #[.int .i64 k.sort, .slice A1 k.names.length c1, .slice A2 k.kids.length c2] 38)).alloc (.cells #[.int .i64 t.sort, .int .i64 t.num, .string t.text, .slice B1 t.names.length d1, .slice B2 t.kids.length d2] 26)) := ((Below.refl w.heap.size w).alloc (Nat.le_refl _) _).alloc (by simp) _
  have RK : Row ((w.alloc (.cells #[.int .i64 k.sort, .slice A1 k.names.length c1, .slice A2 k.kids.length c2] 38)).alloc (.cells #[.int .i64 t.sort, .int .i64 t.num, .string t.text, .slice B1 t.names.length d1, .slice B2 t.kids.length d2] 26)) w.heap.size 38 [.int .i64 k.sort, .slice A1 k.names.length c1, .slice A2 k.kids.length c2] := (Row.new w _ _).alloc _
  have RT : Row ((w.alloc (.cells #[.int .i64 k.sort, .slice A1 k.names.length c1, .slice A2 k.kids.length c2] 38)).alloc (.cells #[.int .i64 t.sort, .int .i64 t.num, .string t.text, .slice B1 t.names.length d1, .slice B2 t.kids.length d2] 26)) (w.heap.size + 1) 26 [.int .i64 t.sort, .int .i64 t.num, .string t.text, .slice B1 t.names.length d1, .slice B2 t.kids.length d2] := by
    have h := Row.new (w.alloc (.cells #[.int .i64 k.sort, .slice A1 k.names.length c1, .slice A2 k.kids.length c2] 38)) 26 [.int .i64 t.sort, .int .i64 t.num, .string t.text, .slice B1 t.names.length d1, .slice B2 t.kids.length d2]
    rw [World.size_alloc] at h
    exact h
  have B0 := hide hw1
  clear hw1
  go_enter Tryz.func20, Tryz.ntmps20
  go_wp2_with fail
  refine (specKindOk_any k _ _ _ (HK.out.below B0.out hf) (hf.up B0.out) hbk).mono ?_
  rintro e w2 ⟨rfl, hb2⟩
  have BB2 := hide (B0.out.trans (hb2.mono B0.out.size))
  have RK2 := RK.below hb2 RK.lt
  have RT2 := RT.below hb2 RT.lt
  clear RK RT hb2
  have lk := RK2.lt
  have lt := RT2.lt
  have t0 := RT2.cell 0
  have t1 := RT2.cell 1
  have t2 := RT2.cell 2
  have t3 := RT2.cell 3
  have t4 := RT2.cell 4
  by_cases hk : k.ok
  · rw [tb_true hk]
    have HK1 := hide hk
    clear hk
    go_wp2_with fail
    refine (specTreeOk_any t _ _ _ (HT.out.below BB2.out hg) (hg.up BB2.out) hbt).mono ?_
    rintro e w3 ⟨rfl, hb3⟩
    have BB3 := hide (BB2.out.trans (hb3.mono BB2.out.size))
    have RK3 := RK2.below hb3 lk
    have RT3 := RT2.below hb3 lt
    clear RK2 RT2 hb3 lk lt t0 t1 t2 t3 t4
    have lk := RK3.lt
    have lt := RT3.lt
    have k0 := RK3.cell 0
    have k1 := RK3.cell 1
    have k2 := RK3.cell 2
    have t0 := RT3.cell 0
    have t1 := RT3.cell 1
    have t2 := RT3.cell 2
    have t3 := RT3.cell 3
    have t4 := RT3.cell 4
    by_cases ht : t.ok
    · rw [tb_true ht]
      have HT1 := hide ht
      have HE := hide (show tb (k.ok ∧ t.ok ∧ t.of k) = tb (t.of k) from congrArg tb (propext ⟨fun h => h.2.2, fun h => ⟨HK1.out, ht, h⟩⟩))
      clear ht
      go_wp2_with fail
      refine (hasTree_any t k _ _ _ _ 1 1 _ (HK.out.below BB3.out hf) (HT.out.below BB3.out hg) (hf.up BB3.out) (hg.up BB3.out) hbk hbt HK1.out.1 HT1.out.1).mono ?_
      rintro e w4 ⟨rfl, hb4⟩
      go_wp2
      go_ret
      exact ⟨ret_bool HE.out.symm, BB3.out.trans (hb4.mono BB3.out.size)⟩
    · rw [tb_false ht]
      have HE := hide (tb_false (p := k.ok ∧ t.ok ∧ t.of k) (fun h => ht h.2.1))
      clear ht
      go_wp2
      go_ret
      exact ⟨ret_bool HE.out.symm, BB3.out⟩
  · rw [tb_false hk]
    have HE := hide (tb_false (p := k.ok ∧ t.ok ∧ t.of k) (fun h => hk h.1))
    clear hk
    go_wp2
    go_ret
    exact ⟨ret_bool HE.out.symm, BB2.out⟩
end Go.Proofs.YtnaecdoeldoipaaGreatDoor
