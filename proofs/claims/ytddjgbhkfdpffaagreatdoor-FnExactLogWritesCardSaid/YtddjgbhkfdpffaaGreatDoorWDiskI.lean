/-
  slices.Index and slices.Delete at []string, of the caller's own row. Disks: the program's names behind so many moves (names).
-/
import Derived.Test.YtddjgbhkfdpffaaGreatDoorWHLogState
import Derived.Test.YtddjgbhkfdpffaaGreatDoorWDiskW2
import Derived.Test.YtddjgbhkfdpffaaGreatDoorWLib
set_option linter.unusedVariables false
set_option linter.unusedSimpArgs false
namespace Go.Proofs.YtddjgbhkfdpffaaGreatDoor
open Go.ChangeShapes Go.WideShapes Go.ChangeAt Go.RowKit

theorem Row.setMid {g : Nat} {e : TypeId} : ∀ (vs pre cs rest : List Value) {w : World}, vs.length = cs.length → Row w g e (pre ++ (cs ++ rest)) → Row (w.setCells g pre.length vs) g e (pre ++ (vs ++ rest))
  | [], pre, [], rest, w, _, h => h
  | [], _, _ :: _, _, _, hl, _ => by simp at hl
  | _ :: _, _, [], _, _, hl, _ => by simp at hl
  | v :: vs, pre, c :: cs, rest, w, hl, h => by
    have h1 := h.set pre.length v
    have e1 : (pre ++ ((c :: cs) ++ rest)).set pre.length v = (pre ++ [v]) ++ (cs ++ rest) := by simp
    rw [e1] at h1
    have h2 := Row.setMid vs (pre ++ [v]) cs rest (by simpa using hl) h1
    simp only [List.length_append, List.length_cons, List.length_nil, List.append_assoc, List.cons_append, List.nil_append] at h2
    exact h2
theorem setCells_grown {w0 : World} {g : Nat} : ∀ (vs : List Value) (i : Nat) {w : World}, w0.grownBy w (some g) → w0.grownBy (w.setCells g i vs) (some g)
  | [], _, _, h => h
  | v :: vs, i, w, h => setCells_grown vs (i + 1) (only_setCell h (.inl rfl) v)
theorem strs_us : ∀ (l : List ByteArray) {us : List Value} {w : World} {fp : List Nat}, OwC w (l.flatMap strC) us fp → us = l.map Value.string ∧ ∀ s ∈ l, s.size ≤ maxLen
  | [], us, w, fp, h => by
    match us, OwC.length _ h with
    | [], _ => exact ⟨rfl, fun s hs => by cases hs⟩
  | s :: r, us, w, fp, h => by
    match us, OwC.length _ h with
    | u :: us, _ =>
      obtain ⟨f1, f2, h1, h2, rfl⟩ := h
      simp only [Ow, okAtom] at h1
      obtain ⟨rfl, h3, rfl⟩ := h1
      obtain ⟨e, h4⟩ := strs_us r h2
      exact ⟨by rw [e]; rfl, fun x hx => by rcases List.mem_cons.1 hx with rfl | hx; exact h3; exact h4 x hx⟩
/-- where an element is, and what is left without it -/
theorem idx_cases (x : ByteArray) : ∀ (l : List ByteArray), (∃ k : Nat, Lib.idxOfS l x = (k : Int) ∧ k < l.length ∧ eraseOne x l = l.eraseIdx k) ∨ (Lib.idxOfS l x = -1 ∧ eraseOne x l = l) := by
  have gen : ∀ (l : List ByteArray) (i : Nat), (∃ k : Nat, Lib.idxFromS l x i = ((i + k : Nat) : Int) ∧ k < l.length ∧ eraseOne x l = l.eraseIdx k) ∨ (Lib.idxFromS l x i = -1 ∧ eraseOne x l = l) := by
    intro l
    induction l with
    | nil => intro i; exact .inr ⟨rfl, rfl⟩
    | cons z l ih =>
      intro i
      by_cases e : z = x
      · subst e
        exact .inl ⟨0, by simp [Lib.idxFromS], by simp, by simp [eraseOne, tb_true]⟩
      · rcases ih (i + 1) with ⟨k, h1, h2, h3⟩ | ⟨h1, h2⟩
        · refine .inl ⟨k + 1, ?_, by simp; exact h2, ?_⟩
          · simp only [Lib.idxFromS, if_neg e, h1]
            congr 1
            omega
          · simp only [eraseOne, tb_false e, List.eraseIdx_cons_succ, h3]
            rfl
        · refine .inr ⟨?_, ?_⟩
          · simp only [Lib.idxFromS, if_neg e, h1]
          · simp only [eraseOne, tb_false e, h2]
            rfl
  intro l
  rcases gen l 0 with ⟨k, h1, h2⟩ | h
  · exact .inl ⟨k, by simpa [Lib.idxOfS] using h1, h2⟩
  · exact .inr h
theorem indexStr_any (l : List ByteArray) (A : Option Addr) (n c : Nat) (fp : List Nat) (x : ByteArray) (w : World) (h : Ow w (.s 1 l.length (l.flatMap strC)) (.slice A n c) fp) :
    Calls Tryz.prog 123 #[.slice A n c, .string x] w fun e w' => e = .returned (.int .i64 (Lib.idxOfS l x)) ∧ w = w' := by
  obtain ⟨rfl, hc, hm⟩ := h.nlen
  unfold maxLen at hm
  by_cases h0 : l.length = 0
  · obtain rfl : l = [] := List.eq_nil_of_length_eq_zero h0
    exact (Tryz.slices_Index_string_empty A c x w).mono (fun e w' ⟨he, hw⟩ => ⟨he, hw.symm⟩)
  · obtain ⟨g, off, rfl, _, _, _⟩ := strs_at h (i := 0) (by omega)
    refine (Tryz.slices_Index_string g off l.length c l x w (Nat.le_refl _) (by omega) (strs_all h)).mono ?_
    rintro e w' ⟨rfl, rfl⟩
    rw [List.take_length]
    exact ⟨rfl, rfl⟩
theorem containsStr_any (l : List ByteArray) (A : Option Addr) (n c : Nat) (fp : List Nat) (x : ByteArray) (w : World) (h : Ow w (.s 1 l.length (l.flatMap strC)) (.slice A n c) fp) :
    Calls Tryz.prog 84 #[.slice A n c, .string x] w fun e w' => e = .returned (.bool (tb (x ∈ l))) ∧ w = w' := by
  obtain ⟨rfl, hc, hm⟩ := h.nlen
  unfold maxLen at hm
  by_cases h0 : l.length = 0
  · obtain rfl : l = [] := List.eq_nil_of_length_eq_zero h0
    exact (Tryz.slices_Contains_string_empty A c x w).mono (fun e w' ⟨he, hw⟩ => ⟨by rw [he, tb_false (by simp)], hw.symm⟩)
  · obtain ⟨g, off, rfl, _, _, _⟩ := strs_at h (i := 0) (by omega)
    refine (Tryz.slices_Contains_string g off l.length c l x w (Nat.le_refl _) (by omega) (strs_all h)).mono ?_
    rintro e w' ⟨rfl, rfl⟩
    rw [List.take_length]
    refine ⟨ret_bool ?_, rfl⟩
    by_cases hx : x ∈ l
    · rw [tb_true hx]; exact (Lib.containsS_iff _ _).2 hx
    · rw [tb_false hx]
      have := fun h => hx ((Lib.containsS_iff l x).1 h)
      simpa using this
theorem map_strs (l : List ByteArray) : (Lib.strsOf (fun i => l.getD i ByteArray.empty) l.length) = l.map (fun (x : ByteArray) => x.data.toList) := by
  unfold Lib.strsOf
  refine List.ext_getElem (by simp) (fun i h1 h2 => ?_)
  simp only [List.length_map] at h2
  simp [List.getD, h2]
theorem OwS.del {w : World} {B : Nat} {e : TypeId} {A : Option Addr} {c : Nat} {l : List ByteArray} {us : List Value} {fi : List Nat} {k : Nat} (h : OwS w B e 1 strC (.slice A l.length c) l us fi) (hk : k < l.length) :
    Calls Tryz.prog 124 #[.slice A l.length c, .int .i64 (k : Int), .int .i64 ((k : Int) + 1)] w fun en w' => en = .returned (.slice A (l.length - 1) c) ∧ OwS w' B e 1 strC (.slice A (l.length - 1) c) (l.eraseIdx k) ((l.eraseIdx k).map Value.string) [] ∧ GB w w' (.slice A l.length c) (.slice A (l.length - 1) c) := by
  obtain ⟨rfl, hsz⟩ := strs_us l h.cells
  rcases h.own.2 with ⟨e0, e1⟩ | ⟨g, cap, cur, hv, hB, hg, h1, h2, h3, h4⟩
  · omega
  · injection hv with hv1 hv2 hv3
    subst hv1 hv3
    unfold maxLen at h2
    have hrow : Row w g e cur.toList := by simpa [Row] using hg
    rw [Nat.mul_one] at h4 h3
    have hcur : cur.toList = l.map Value.string ++ cur.toList.drop l.length := by rw [← h4, List.take_append_drop]
    have hcl : cur.toList.length = c := by simpa using h3
    have hcell : ∀ i, i < l.length → w.cell? ⟨g, 0 + i, none⟩ = some (.string (l.getD i ByteArray.empty)) := fun i hi => by
      rw [Nat.zero_add, hrow.cell, hcur, List.getElem?_append_left (by rw [List.length_map]; exact hi), List.getElem?_map]
      simp [List.getD, hi]
    have hcast : ((k : Int) + 1) = ((k + 1 : Nat) : Int) := by omega
    rw [hcast]
    refine (Tryz.slices_Delete_string_cells g 0 l.length c k (k + 1) (fun i => l.getD i ByteArray.empty) w h1 h2 (by omega) (by omega) hcell (fun j _ => hrow.frozen _)).mono ?_
    rintro en w' ⟨rfl, q, rfl⟩
    have hd : k + 1 - k = 1 := by omega
    rw [hd, map_strs]
    obtain ⟨vs, hvs⟩ : ∃ vs, ((l.map (fun (x : ByteArray) => x.data.toList)).take k ++ (l.map (fun (x : ByteArray) => x.data.toList)).drop (k + 1) ++ List.replicate 1 []).map Go.Proofs.encStr = vs := ⟨_, rfl⟩
    have hvs2 : vs = (l.eraseIdx k).map Value.string ++ [Go.Proofs.encStr []] := by
      rw [← hvs, ← List.map_take, ← List.map_drop, ← List.map_append, List.map_append, List.map_map, ← List.eraseIdx_eq_take_drop_succ]
      congr 1
    have hel : (l.eraseIdx k).length = l.length - 1 := by rw [List.length_eraseIdx, if_pos hk]
    have hvl : vs.length = (l.map Value.string).length := by
      rw [hvs2, List.length_append, List.length_map, List.length_map, hel]
      simp
      omega
    rw [hvs]
    have hrow2 : Row ((w.drewN q).setCells g 0 vs) g e (vs ++ cur.toList.drop l.length) := by
      have hr := hrow.drewN q
      rw [hcur] at hr
      have h5 := Row.setMid vs [] (l.map Value.string) (cur.toList.drop l.length) hvl (w := w.drewN q) (by simpa using hr)
      simpa using h5
    refine ⟨rfl, ⟨⟨by rw [List.length_map]; omega, .inr ⟨g, c, (vs ++ cur.toList.drop l.length).toArray, by rw [hel], hB, ?_, by rw [hel]; omega, h2, ?_, ?_⟩⟩, ?_, New.nil _ _, fun _ _ => by simp⟩, ?_⟩
    · exact hrow2
    · simp only [List.size_toArray, List.length_append, hvl, List.length_map, List.length_drop, hcl]
      omega
    · rw [hel, hvs2]
      simp only [Nat.mul_one, List.append_assoc]
      rw [List.take_append_of_le_length (by rw [List.length_map]; omega), List.take_of_length_le (by rw [List.length_map]; omega)]
    · exact strs_cells _ (fun s hs => hsz s (List.mem_of_mem_eraseIdx hs)) _
    · exact ⟨setCells_grown vs 0 (w0 := w) (w := w.drewN q) ⟨rfl, rfl, rfl, Nat.le_refl _, fun _ _ _ => rfl⟩, .inl rfl⟩
end Go.Proofs.YtddjgbhkfdpffaaGreatDoor
set_option linter.unusedVariables false
set_option linter.unusedSimpArgs false
namespace Go.Proofs.YtddjgbhkfdpffaaGreatDoor
open Go.ChangeShapes Go.WideShapes Go.ChangeAt Go.RowKit

theorem eraseOne_len (x : ByteArray) : ∀ (l : List ByteArray), (eraseOne x l).length ≤ l.length
  | [] => Nat.le_refl _
  | y :: l => by
    have := eraseOne_len x l
    unfold eraseOne
    split <;> simp <;> omega
theorem afterI_len (d : Disk) (i : Nat) : (d.afterI i).length ≤ d.names.length + i := by
  induction i with
  | zero => rw [d.afterI_zero]; omega
  | succ i ih =>
    by_cases h : i < d.moves.length
    · rw [d.afterI_succ i h]
      unfold DiskMove.stepI
      split
      · exact Nat.le_trans (eraseOne_len _ _) (by omega)
      · rw [List.length_append]; simp; omega
    · have e : d.afterI (i + 1) = d.afterI i := by
        unfold Disk.afterI
        rw [List.take_of_length_le (by omega), List.take_of_length_le (by omega)]
      rw [e]; omega
set_option maxRecDepth 100000 in
set_option maxHeartbeats 1000000 in
theorem implNames_any (d : Disk) (us0 : List Value) (fp : List Nat) (m : Nat) (w : World) (h : OwC w d.cells us0 fp) (hf : Lt fp w.heap.size) (hbk : d.bulk ≤ 1048576) (hm : m ≤ d.moves.length) :
    Calls Tryz.prog 85 #[.agg us0.toArray, .int .i64 (m : Int)] w fun e w' => ∃ v us, e = .returned v ∧ OwS w' w.heap.size 9 1 strC v (d.afterI m) us [] ∧ Below w.heap.size w w' := by
  obtain ⟨A1, c1, A2, c2, A3, c3, f1, f2, f3, rfl, o1, o2, o3, rfl⟩ := h.oDisk
  clear h
  obtain ⟨_, hc2, hm2⟩ := o2.nlen
  obtain ⟨_, hc3, hm3⟩ := o3.nlen
  unfold maxLen at hm2 hm3
  have hkb := d.bulk_eq
  unfold bulkStrs DiskFile.bulkL DiskMove.bulkL at hkb
  have RD : Row (w.alloc (.cells #[.slice A1 d.files.length c1, .slice A2 d.names.length c2, .slice A3 d.moves.length c3] 38)) w.heap.size 38 [.slice A1 d.files.length c1, .slice A2 d.names.length c2, .slice A3 d.moves.length c3] := Row.new w _ _
  obtain ⟨W1, hW1⟩ : ∃ W1, w.alloc (.cells #[.slice A1 d.files.length c1, .slice A2 d.names.length c2, .slice A3 d.moves.length c3] 38) = W1 := ⟨_, rfl⟩
  have hB1 : Below w.heap.size w W1 := hW1 ▸ (Below.refl _ _).alloc (Nat.le_refl _) _
  have hszW : w.heap.size + 1 ≤ W1.heap.size := by rw [← hW1, World.size_alloc]; exact Nat.le_refl _
  rw [hW1] at RD
  have HB1 := hide hB1
  have HRD := hide RD
  have O2 := hide (o2.below hB1 hf.right.left)
  have O3 := hide o3
  obtain ⟨ia, hia, ha0, ha1, ha2⟩ := info_parts info_string
  have HIa := hide hia
  have d1 : W1.cell? ⟨w.heap.size, 1, none⟩ = some (.slice A2 d.names.length c2) := RD.cell 1
  have ld := RD.lt
  have hmc : m ≤ c3 := by omega
  clear o1 o2 o3 hia hB1 RD
  go_enter Tryz.func85, Tryz.ntmps85
  go_wp2_with fail
  refine (cloneStr_any d.names _ _ _ _ W1 O2.out (by omega)).mono ?_
  rintro e w2 ⟨v2, rfl, hs2, hb2⟩
  obtain ⟨A', c', rfl⟩ := hs2.form
  have HRD2 := hide (HRD.out.below hb2 ld)
  have HB2 := hide (HB1.out.trans (hb2.mono (by omega)))
  have HS0 := hide (show OwS w2 (w.heap.size + 1) 9 1 strC (.slice A' d.names.length c') (d.afterI 0) (d.names.map Value.string) [] from by rw [d.afterI_zero]; exact hs2.lower hszW)
  have d2 : w2.cell? ⟨w.heap.size, 2, none⟩ = some (.slice A3 d.moves.length c3) := HRD2.out.cell 2
  have ld2 := HRD2.out.lt
  clear d1 hs2 hb2 HRD HB1 O2
  go_wp2
  clear d2 ld2
  go_loopw [5, 17] (fun s i wr => ∃ (j : Nat) (A' : Option Addr) (n' c' : Nat) (us : List Value), j ≤ m ∧ s = .slice A' n' c' ∧ i = .int .i64 (j : Int) ∧ OwS wr (w.heap.size + 1) 9 1 strC (.slice A' n' c') (d.afterI j) us [] ∧ Below w.heap.size w wr ∧ Row wr w.heap.size 38 [.slice A1 d.files.length c1, .slice A2 d.names.length c2, .slice A3 d.moves.length c3]) (fun _ i _ => m - (intOf i).toNat)
  case atStart => exact ⟨0, _, _, _, _, Nat.zero_le _, rfl, rfl, HS0.out, HB2.out, HRD2.out⟩
  case round =>
    clear HS0 HB2 HRD2
    obtain ⟨j, A', n', c', us, hj, rfl, rfl, hs, hb, hrd⟩ := hrel
    have HB := hide hb
    have HRD := hide hrd
    have hsz := hb.size
    have hsz1 : w.heap.size + 1 ≤ wr.heap.size := hrd.lt
    have hal := afterI_len d j
    by_cases hlt : j < m
    · have hlt2 : j < d.moves.length := by omega
      obtain ⟨g, off, ws, fi, rfl, hgm, hfi, hwl, hcs, hov⟩ := (O3.out.below HB.out hf.right.right).elem DiskMove.cells_len hlt2
      have HSN := hide (d.afterI_succ j hlt2)
      have hgl := hf.right.right _ hgm
      have hgw := Nat.lt_of_lt_of_le hgl hsz
      have hbt : ((j : Int) < (m : Int)) := by omega
      obtain ⟨rfl, hs1, rfl⟩ := hov.oDiskMove
      have p0 := hcs 0 _ rfl
      have p1 := hcs 1 _ rfl
      simp only [Nat.add_zero] at p0
      clear hcs hov hb hrd
      obtain ⟨y, hy⟩ : ∃ y, d.moves[j] = y := ⟨_, rfl⟩
      rw [hy] at p0 p1 hs1
      rw [hy] at HSN
      clear hy
      have HBA := hide ((Below.refl wr.heap.size wr).alloc (Nat.le_refl _) (.cells #[.bool y.gone, .string y.name] 119))
      by_cases hg : y.gone = true
      · have HE := hide (show d.afterI (j + 1) = eraseOne y.name (d.afterI j) from by rw [HSN.out]; unfold DiskMove.stepI; rw [if_pos hg])
        have HSA := hide (hs.below (C := 0) HBA.out)
        obtain ⟨A', c', e1⟩ := hs.form
        injection e1 with e1 e2 e3
        subst e1 e2 e3
        obtain ⟨fp', ho', hn', _⟩ := HSA.out.toOw'
        have HO' := hide ho'
        rw [hg] at p0 HBA HSA HO'
        clear HSN hs ho' hn' hg
        have hIC := idx_cases y.name (d.afterI j)
        generalize d.afterI j = L at *
        have HIC := hide hIC
        clear hIC
        go_wp2_with fail
        refine (indexStr_any L _ _ _ _ _ _ HO'.out).mono ?_
        rintro e w3 ⟨rfl, rfl⟩
        rcases HIC.out with ⟨k, hk1, hk2, hk3⟩ | ⟨hk1, hk3⟩
        · have HK3 := hide hk3
          rw [hk1]
          have hkl : (k : Int) + 1 ≤ 4194304 := by omega
          clear hk1 hk3 HIC
          go_wp2_with fail
          refine (HSA.out.del hk2).mono ?_
          rintro e w4 ⟨rfl, hs4, hg4⟩
          have HS4 := hide hs4
          have HB4 := hide ((HBA.out.mono hsz).trans (hg4.toBelow (by rw [World.size_alloc]; omega) (fun g e => Nat.le_of_succ_le (HSA.out.from e))))
          have HR4 := hide (hg4.row (HRD.out.alloc _) (HSA.out.low (Nat.lt_succ_self _)))
          clear hs4 hg4
          go_wp2
          go_roundw
          case rel => exact ⟨j + 1, _, _, _, _, by omega, rfl, by go_num, by rw [HE.out, HK3.out]; exact HS4.out, HB.out.trans HB4.out, HR4.out⟩
          case measure => simp [intOf]; omega
        · have HK3 := hide hk3
          rw [hk1]
          clear hk1 hk3 HIC
          go_wp2
          go_roundw
          case rel => exact ⟨j + 1, _, _, _, _, by omega, rfl, by go_num, by rw [HE.out, HK3.out]; exact HSA.out, HB.out.trans (HBA.out.mono hsz), HRD.out.alloc _⟩
          case measure => simp [intOf]; omega
      · have hg' : y.gone = false := by simpa using hg
        have HE := hide (show d.afterI (j + 1) = d.afterI j ++ [y.name] from by rw [HSN.out]; unfold DiskMove.stepI; rw [if_neg hg])
        rw [hg'] at p0 HBA
        obtain ⟨wa, hwa⟩ : ∃ wa, wr.alloc (.cells #[.bool false, .string y.name] 119) = wa := ⟨_, rfl⟩
        rw [hwa] at HBA
        have hsa : wr.heap.size + 1 ≤ wa.heap.size := by rw [← hwa, World.size_alloc]; exact Nat.le_refl _
        have RA : Row wa wr.heap.size 119 [.bool false, .string y.name] := hwa ▸ Row.new wr _ _
        have a0 := RA.cell 0
        have a1 := RA.cell 1
        have la := RA.lt
        have HSA := hide (hs.below (C := 0) HBA.out)
        have HRA := hide (HRD.out.below HBA.out HRD.out.lt)
        have HS := hide (HSA.out.alloc (.cells #[.string y.name] 9))
        have HDS := hide (fun W => str_src y.name hs1 W)
        clear HSN hs hg hg' RA
        generalize d.afterI j = L at *
        go_wp2_with (first | (at_builtin; refine wpl_app rfl _ _ 23 rfl ia _ 16 Tryz.underlying23 HIa.out ha0 ha1 ha2 rfl (by decide) strC_len rfl HS.out [y.name] (HDS.out _) (by exact New.nil _ _) (fun g _ hg => by cases hg) _ 1 1 rfl rfl (SrcAt.new wa _ _ _ _) (by omega) (by decide) (by rw [World.size_alloc]; omega) ?_; intro A5 n5 c5 w5 hn5 hown5 hgb5; have HG5 := hide hgb5; have HN5 := hide hown5; clear hown5 hgb5 hn5))
        go_roundw
        case rel => exact ⟨j + 1, A5, n5, c5, _, by omega, rfl, by go_num, by rw [HE.out]; exact HN5.out, HB.out.trans (((HBA.out.mono hsz).alloc (by omega) _).trans (HG5.out.toBelow (by rw [World.size_alloc]; omega) (fun g e => Nat.le_of_succ_le (HS.out.from e)))), HG5.out.row (HRA.out.alloc _) (HS.out.low (Nat.lt_succ_self _))⟩
        case measure => simp [intOf]; omega
    · obtain rfl : j = m := by omega
      have HS := hide hs
      clear hs hb
      go_wp2
      go_ret
      exact ⟨_, us, rfl, HS.out.lower (Nat.le_succ _), HB.out⟩
end Go.Proofs.YtddjgbhkfdpffaaGreatDoor
