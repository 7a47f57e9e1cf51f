/-
  Disks: the program's names behind so many moves (names).
-/
import Derived.Test.YtdingkbggjehoaaDiskW2
import Derived.Test.YtdingkbggjehoaaDel
set_option linter.unusedVariables false
set_option linter.unusedSimpArgs false
namespace Go.Proofs.Ytdingkbggjehoaa
open Go.ChangeShapes Go.WideShapes Go.ChangeAt Go.RowKit

theorem eraseOne_len (x : ByteArray) : ∀ (l : List ByteArray), (eraseOne x l).length ≤ l.length
  | [] => Nat.le_refl _
  | y :: l => by
    have := eraseOne_len x l
    unfold eraseOne
    split <;> simp <;> omega
theorem afterI_len (d : Disk) (i : Nat) : (d.afterI i).length ≤ d.names.length + i := by
  induction i with
  | zero => rw [d.afterI_zero]; omega
  | succ i ih =>
    by_cases h : i < d.moves.length
    · rw [d.afterI_succ i h]
      unfold DiskMove.stepI
      split
      · exact Nat.le_trans (eraseOne_len _ _) (by omega)
      · rw [List.length_append]; simp; omega
    · have e : d.afterI (i + 1) = d.afterI i := by
        unfold Disk.afterI
        rw [List.take_of_length_le (by omega), List.take_of_length_le (by omega)]
      rw [e]; omega
set_option maxRecDepth 100000 in
set_option maxHeartbeats 1000000 in
theorem implNames_any (d : Disk) (us0 : List Value) (fp : List Nat) (m : Nat) (w : World) (h : OwC w d.cells us0 fp) (hf : Lt fp w.heap.size) (hbk : d.bulk ≤ 1048576) (hm : m ≤ d.moves.length) :
    Calls Try.prog 127 #[.agg us0.toArray, .int .i64 (m : Int)] w fun e w' => ∃ v us, e = .returned v ∧ OwS w' w.heap.size 9 1 strC v (d.afterI m) us [] ∧ Below w.heap.size w w' := by
  obtain ⟨A1, c1, A2, c2, A3, c3, f1, f2, f3, rfl, o1, o2, o3, rfl⟩ := h.oDisk
  clear h
  obtain ⟨_, hc2, hm2⟩ := o2.nlen
  obtain ⟨_, hc3, hm3⟩ := o3.nlen
  unfold maxLen at hm2 hm3
  have hkb := d.bulk_eq
  unfold bulkStrs DiskFile.bulkL DiskMove.bulkL at hkb
  have RD : Row (w.alloc (.cells #[.slice A1 d.files.length c1, .slice A2 d.names.length c2, .slice A3 d.moves.length c3] 83)) w.heap.size 83 [.slice A1 d.files.length c1, .slice A2 d.names.length c2, .slice A3 d.moves.length c3] := Row.new w _ _
  obtain ⟨W1, hW1⟩ : ∃ W1, w.alloc (.cells #[.slice A1 d.files.length c1, .slice A2 d.names.length c2, .slice A3 d.moves.length c3] 83) = W1 := ⟨_, rfl⟩
  have hB1 : Below w.heap.size w W1 := hW1 ▸ (Below.refl _ _).alloc (Nat.le_refl _) _
  have hszW : w.heap.size + 1 ≤ W1.heap.size := by rw [← hW1, World.size_alloc]; exact Nat.le_refl _
  rw [hW1] at RD
  have HB1 := hide hB1
  have HRD := hide RD
  have O2 := hide (o2.below hB1 hf.right.left)
  have O3 := hide o3
  obtain ⟨ia, hia, ha0, ha1, ha2⟩ := info_parts info_string
  have HIa := hide hia
  have d1 : W1.cell? ⟨w.heap.size, 1, none⟩ = some (.slice A2 d.names.length c2) := RD.cell 1
  have ld := RD.lt
  have hmc : m ≤ c3 := by omega
  clear o1 o2 o3 hia hB1 RD
  go_enter Try.func127, Try.ntmps127
  go_wp2_with fail
  refine (cloneStr_any d.names _ _ _ _ W1 O2.out (by omega)).mono ?_
  rintro e w2 ⟨v2, rfl, hs2, hb2⟩
  obtain ⟨A', c', rfl⟩ := hs2.form
  have HRD2 := hide (HRD.out.below hb2 ld)
  have HB2 := hide (HB1.out.trans (hb2.mono (by omega)))
  have HS0 := hide (show OwS w2 (w.heap.size + 1) 9 1 strC (.slice A' d.names.length c') (d.afterI 0) (d.names.map Value.string) [] from by rw [d.afterI_zero]; exact hs2.lower hszW)
  have d2 : w2.cell? ⟨w.heap.size, 2, none⟩ = some (.slice A3 d.moves.length c3) := HRD2.out.cell 2
  have ld2 := HRD2.out.lt
  clear d1 hs2 hb2 HRD HB1 O2
  go_wp2
  clear d2 ld2
  go_loopw [5, 17] (fun s i wr => ∃ (j : Nat) (A' : Option Addr) (n' c' : Nat) (us : List Value), j ≤ m ∧ s = .slice A' n' c' ∧ i = .int .i64 (j : Int) ∧ OwS wr (w.heap.size + 1) 9 1 strC (.slice A' n' c') (d.afterI j) us [] ∧ Below w.heap.size w wr ∧ Row wr w.heap.size 83 [.slice A1 d.files.length c1, .slice A2 d.names.length c2, .slice A3 d.moves.length c3]) (fun _ i _ => m - (intOf i).toNat)
  case atStart => exact ⟨0, _, _, _, _, Nat.zero_le _, rfl, rfl, HS0.out, HB2.out, HRD2.out⟩
  case round =>
    clear HS0 HB2 HRD2
    obtain ⟨j, A', n', c', us, hj, rfl, rfl, hs, hb, hrd⟩ := hrel
    have HB := hide hb
    have HRD := hide hrd
    have hsz := hb.size
    have hsz1 : w.heap.size + 1 ≤ wr.heap.size := hrd.lt
    have hal := afterI_len d j
    by_cases hlt : j < m
    · have hlt2 : j < d.moves.length := by omega
      obtain ⟨g, off, ws, fi, rfl, hgm, hfi, hwl, hcs, hov⟩ := (O3.out.below HB.out hf.right.right).elem DiskMove.cells_len hlt2
      have HSN := hide (d.afterI_succ j hlt2)
      have hgl := hf.right.right _ hgm
      have hgw := Nat.lt_of_lt_of_le hgl hsz
      have hbt : ((j : Int) < (m : Int)) := by omega
      obtain ⟨rfl, hs1, rfl⟩ := hov.oDiskMove
      have p0 := hcs 0 _ rfl
      have p1 := hcs 1 _ rfl
      simp only [Nat.add_zero] at p0
      clear hcs hov hb hrd
      obtain ⟨y, hy⟩ : ∃ y, d.moves[j] = y := ⟨_, rfl⟩
      rw [hy] at p0 p1 hs1
      rw [hy] at HSN
      clear hy
      have HBA := hide ((Below.refl wr.heap.size wr).alloc (Nat.le_refl _) (.cells #[.bool y.gone, .string y.name] 147))
      by_cases hg : y.gone = true
      · have HE := hide (show d.afterI (j + 1) = eraseOne y.name (d.afterI j) from by rw [HSN.out]; unfold DiskMove.stepI; rw [if_pos hg])
        have HSA := hide (hs.below (C := 0) HBA.out)
        obtain ⟨A', c', e1⟩ := hs.form
        injection e1 with e1 e2 e3
        subst e1 e2 e3
        obtain ⟨fp', ho', hn', _⟩ := HSA.out.toOw'
        have HO' := hide ho'
        rw [hg] at p0 HBA HSA HO'
        clear HSN hs ho' hn' hg
        have hIC := idx_cases y.name (d.afterI j)
        generalize d.afterI j = L at *
        have HIC := hide hIC
        clear hIC
        go_wp2_with fail
        refine (indexStr_any L _ _ _ _ _ _ HO'.out).mono ?_
        rintro e w3 ⟨rfl, rfl⟩
        rcases HIC.out with ⟨k, hk1, hk2, hk3⟩ | ⟨hk1, hk3⟩
        · have HK3 := hide hk3
          rw [hk1]
          have hkl : (k : Int) + 1 ≤ 4194304 := by omega
          clear hk1 hk3 HIC
          go_wp2_with fail
          refine (HSA.out.del hk2).mono ?_
          rintro e w4 ⟨rfl, hs4, hg4⟩
          have HS4 := hide hs4
          have HB4 := hide ((HBA.out.mono hsz).trans (hg4.toBelow (by rw [World.size_alloc]; omega) (fun g e => Nat.le_of_succ_le (HSA.out.from e))))
          have HR4 := hide (hg4.row (HRD.out.alloc _) (HSA.out.low (Nat.lt_succ_self _)))
          clear hs4 hg4
          go_wp2
          go_roundw
          case rel => exact ⟨j + 1, _, _, _, _, by omega, rfl, by go_num, by rw [HE.out, HK3.out]; exact HS4.out, HB.out.trans HB4.out, HR4.out⟩
          case measure => simp [intOf]; omega
        · have HK3 := hide hk3
          rw [hk1]
          clear hk1 hk3 HIC
          go_wp2
          go_roundw
          case rel => exact ⟨j + 1, _, _, _, _, by omega, rfl, by go_num, by rw [HE.out, HK3.out]; exact HSA.out, HB.out.trans (HBA.out.mono hsz), HRD.out.alloc _⟩
          case measure => simp [intOf]; omega
      · have hg' : y.gone = false := by simpa using hg
        have HE := hide (show d.afterI (j + 1) = d.afterI j ++ [y.name] from by rw [HSN.out]; unfold DiskMove.stepI; rw [if_neg hg])
        rw [hg'] at p0 HBA
        obtain ⟨wa, hwa⟩ : ∃ wa, wr.alloc (.cells #[.bool false, .string y.name] 147) = wa := ⟨_, rfl⟩
        rw [hwa] at HBA
        have hsa : wr.heap.size + 1 ≤ wa.heap.size := by rw [← hwa, World.size_alloc]; exact Nat.le_refl _
        have RA : Row wa wr.heap.size 147 [.bool false, .string y.name] := hwa ▸ Row.new wr _ _
        have a0 := RA.cell 0
        have a1 := RA.cell 1
        have la := RA.lt
        have HSA := hide (hs.below (C := 0) HBA.out)
        have HRA := hide (HRD.out.below HBA.out HRD.out.lt)
        have HS := hide (HSA.out.alloc (.cells #[.string y.name] 9))
        have HDS := hide (fun W => str_src y.name hs1 W)
        clear HSN hs hg hg' RA
        generalize d.afterI j = L at *
        go_wp2_with (first | (at_builtin; refine wpl_app rfl _ _ 22 rfl ia _ 16 Try.underlying22 HIa.out ha0 ha1 ha2 rfl (by decide) strC_len rfl HS.out [y.name] (HDS.out _) (by exact New.nil _ _) (fun g _ hg => by cases hg) _ 1 1 rfl rfl (SrcAt.new wa _ _ _ _) (by omega) (by decide) (by rw [World.size_alloc]; omega) ?_; intro A5 n5 c5 w5 hn5 hown5 hgb5; have HG5 := hide hgb5; have HN5 := hide hown5; clear hown5 hgb5 hn5))
        go_roundw
        case rel => exact ⟨j + 1, A5, n5, c5, _, by omega, rfl, by go_num, by rw [HE.out]; exact HN5.out, HB.out.trans (((HBA.out.mono hsz).alloc (by omega) _).trans (HG5.out.toBelow (by rw [World.size_alloc]; omega) (fun g e => Nat.le_of_succ_le (HS.out.from e)))), HG5.out.row (HRA.out.alloc _) (HS.out.low (Nat.lt_succ_self _))⟩
        case measure => simp [intOf]; omega
    · obtain rfl : j = m := by omega
      have HS := hide hs
      clear hs hb
      go_wp2
      go_ret
      exact ⟨_, us, rfl, HS.out.lower (Nat.le_succ _), HB.out⟩
end Go.Proofs.Ytdingkbggjehoaa
