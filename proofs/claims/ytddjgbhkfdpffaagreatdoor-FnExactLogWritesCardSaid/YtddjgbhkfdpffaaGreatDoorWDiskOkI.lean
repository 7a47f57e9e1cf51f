/-
  Disks: the program's fileAt (IndexFunc with a closure that captures), EqualFunc on files and names. Disks: the program's DiskOk. Printed by gen/diskoki.py.
-/
import Derived.Test.YtddjgbhkfdpffaaGreatDoorWDiskI
import Derived.Test.YtddjgbhkfdpffaaGreatDoorWDiskOkW
set_option linter.unusedVariables false
set_option linter.unusedSimpArgs false
namespace Go.Proofs.YtddjgbhkfdpffaaGreatDoor
open Go.ChangeShapes Go.WideShapes Go.ChangeAt Go.RowKit

set_option maxRecDepth 100000 in
theorem atClosure_any (y : DiskFile) (x : ByteArray) (b : Nat) (w : World) (hx : w.cell? ⟨b, 0, none⟩ = some (.string x)) (hb : b < w.heap.size) :
    Calls Tryz.prog 126 #[.agg #[.string y.name, .string y.data, .int .i64 y.kept], .pointer (some ⟨b, 0, none⟩)] w fun e w' => e = .returned (.bool (tb (y.name = x))) ∧ Below w.heap.size w w' := by
  have hw1 := hide (show Below w.heap.size w (w.alloc (.cells #[.string y.name, .string y.data, .int .i64 y.kept] 116)) from (Below.refl _ _).alloc (Nat.le_refl _) _)
  have hx' := (hw1.out.cell (p := ⟨b, 0, none⟩) hb).trans hx
  by_cases he : y.name = x
  · have e1 := txt_yes he
    have HT := hide (tb_true he)
    clear he
    go_enter Tryz.func126, Tryz.ntmps126
    go_wp2
    go_ret
    exact ⟨ret_bool HT.out.symm, hw1.out⟩
  · have e1 := txt_no he
    have HT := hide (tb_false he)
    clear he
    go_enter Tryz.func126, Tryz.ntmps126
    go_wp2
    go_ret
    exact ⟨ret_bool HT.out.symm, hw1.out⟩
set_option maxRecDepth 100000 in
theorem fileIndex_any (l : List DiskFile) (A : Option Addr) (n c : Nat) (fp : List Nat) (x : ByteArray) (b : Nat) (w : World) (h : Ow w (.s 3 l.length (l.flatMap DiskFile.cells)) (.slice A n c) fp) (hf : Lt fp w.heap.size) (hx : w.cell? ⟨b, 0, none⟩ = some (.string x)) (hb : b < w.heap.size) :
    Calls Tryz.prog 125 #[.slice A n c, .func (.func 126) #[] #[.pointer (some ⟨b, 0, none⟩)]] w fun e w' => ∃ z : Int, e = .returned (.int .i64 z) ∧ FindIs l x z ∧ Below w.heap.size w w' := by
  obtain ⟨rfl, hc, hm⟩ := h.nlen
  unfold maxLen at hm
  have H := hide h
  clear h
  go_enter Tryz.func125, Tryz.ntmps125
  go_wp2
  go_loopw [8] (fun i wr => (∃ j : Nat, j ≤ l.length ∧ i = .int .i64 j ∧ ∀ a (h : a < l.length), a < j → l[a].name ≠ x) ∧ Below w.heap.size w wr) (fun i _ => l.length - (intOf i).toNat)
  case atStart => exact ⟨⟨0, Nat.zero_le _, rfl, fun a h1 h => absurd h (by omega)⟩, Below.refl _ _⟩
  case round =>
    obtain ⟨⟨j, hj, rfl, ha⟩, hbw⟩ := hrel
    have HA := hide ha
    have HB := hide hbw
    have hbx := (hbw.cell (p := ⟨b, 0, none⟩) hb).trans hx
    have hbl := Nat.lt_of_lt_of_le hb hbw.size
    clear ha hbw
    by_cases hlt : j < l.length
    · obtain ⟨g, off, ws, fi, rfl, hgm, hfi, hwl, hcs, hov⟩ := (H.out.below HB.out hf).elem DiskFile.cells_len hlt
      obtain ⟨rfl, hs0, hs1, hw2, rfl⟩ := hov.oDiskFile
      have p0 := hcs 0 _ rfl
      have p1 := hcs 1 _ rfl
      have p2 := hcs 2 _ rfl
      simp only [Nat.add_zero] at p0
      clear hcs hov hfi
      have hst := hide (fun (hx : l[j].name ≠ x) (a : Nat) (h : a < l.length) (hl : a < j + 1) => show l[a].name ≠ x from by
        by_cases e : a < j
        · exact HA.out a h e
        · obtain rfl : a = j := by omega
          exact hx)
      have hyes := hide (fun (hx : l[j].name = x) => show FindIs l x (j : Int) from .inl ⟨j, rfl, ⟨hlt, hx⟩, HA.out⟩)
      have HC := hide (atClosure_any l[j] x b wr hbx hbl)
      generalize l[j] = y at *
      go_wp2_with fail
      refine HC.out.mono ?_
      rintro e w2 ⟨rfl, hb2⟩
      have HB2 := hide (HB.out.trans (hb2.mono HB.out.size))
      clear hb2 HC
      by_cases hx : y.name = x
      · rw [tb_true hx]
        have HX := hide (hyes.out hx)
        clear hx
        go_wp2
        go_ret
        exact ⟨_, rfl, HX.out, HB2.out⟩
      · rw [tb_false hx]
        have HX := hide (hst.out hx)
        clear hx
        go_wp2
        go_roundw
        case rel => exact ⟨⟨j + 1, by omega, by go_num, HX.out⟩, HB2.out⟩
        case measure => simp [intOf]; omega
    · obtain rfl : j = l.length := by omega
      have HX := hide (show FindIs l x (-1) from .inr ⟨rfl, fun i h => HA.out i h h⟩)
      go_wp2
      go_ret
      exact ⟨_, rfl, HX.out, HB.out⟩
set_option maxRecDepth 100000 in
theorem fileAt_any (d : Disk) (us0 : List Value) (fp : List Nat) (x : ByteArray) (w : World) (h : OwC w d.cells us0 fp) (hf : Lt fp w.heap.size) :
    Calls Tryz.prog 87 #[.agg us0.toArray, .string x] w fun e w' => ∃ z : Int, e = .returned (.int .i64 z) ∧ FindIs d.files x z ∧ Below w.heap.size w w' := by
  obtain ⟨A1, c1, A2, c2, A3, c3, f1, f2, f3, rfl, o1, o2, o3, rfl⟩ := h.oDisk
  clear h
  have hB := hide (show Below w.heap.size w ((w.alloc (.cells #[.slice A1 d.files.length c1, .slice A2 d.names.length c2, .slice A3 d.moves.length c3] 38)).alloc (.cells #[.string x] 9)) from ((Below.refl _ _).alloc (Nat.le_refl _) _).alloc (by rw [World.size_alloc]; omega) _)
  have O1 := hide (o1.below hB.out hf.left)
  have HL := hide (hf.left.up hB.out)
  have hx : ((w.alloc (.cells #[.slice A1 d.files.length c1, .slice A2 d.names.length c2, .slice A3 d.moves.length c3] 38)).alloc (.cells #[.string x] 9)).cell? ⟨w.heap.size + 1, 0, none⟩ = some (.string x) := by
    have h := (Row.new (w.alloc (.cells #[.slice A1 d.files.length c1, .slice A2 d.names.length c2, .slice A3 d.moves.length c3] 38)) 9 [.string x]).cell 0
    rw [World.size_alloc] at h
    exact h
  have HI := hide (fileIndex_any d.files A1 d.files.length c1 f1 x (w.heap.size + 1) _ O1.out HL.out hx (by rw [World.size_alloc, World.size_alloc]; omega))
  clear o1 o2 o3 hx
  go_enter Tryz.func87, Tryz.ntmps87
  go_wp2_with fail
  refine HI.out.mono ?_
  rintro e w2 ⟨z, rfl, hz, hb2⟩
  have HZ := hide hz
  have HB2 := hide (hB.out.trans (hb2.mono hB.out.size))
  clear hz hb2
  go_wp2
  go_ret
  exact ⟨z, rfl, HZ.out, HB2.out⟩
set_option maxRecDepth 100000 in
theorem eqClosure_any (y : DiskFile) (x : ByteArray) (w : World) :
    Calls Tryz.prog 89 #[.agg #[.string y.name, .string y.data, .int .i64 y.kept], .string x] w fun e w' => e = .returned (.bool (tb (y.name = x))) ∧ Below w.heap.size w w' := by
  have hw1 := hide (show Below w.heap.size w (w.alloc (.cells #[.string y.name, .string y.data, .int .i64 y.kept] 116)) from (Below.refl _ _).alloc (Nat.le_refl _) _)
  by_cases he : y.name = x
  · have e1 := txt_yes he
    have HT := hide (tb_true he)
    clear he
    go_enter Tryz.func89, Tryz.ntmps89
    go_wp2
    go_ret
    exact ⟨ret_bool HT.out.symm, hw1.out⟩
  · have e1 := txt_no he
    have HT := hide (tb_false he)
    clear he
    go_enter Tryz.func89, Tryz.ntmps89
    go_wp2
    go_ret
    exact ⟨ret_bool HT.out.symm, hw1.out⟩
set_option maxRecDepth 100000 in
theorem eqFiles_any (l : List DiskFile) (m : List ByteArray) (A : Option Addr) (n c : Nat) (fp : List Nat) (A' : Option Addr) (n' c' : Nat) (fq : List Nat) (w : World) (h : Ow w (.s 3 l.length (l.flatMap DiskFile.cells)) (.slice A n c) fp) (hf : Lt fp w.heap.size) (h' : Ow w (.s 1 m.length (m.flatMap strC)) (.slice A' n' c') fq) (hf' : Lt fq w.heap.size) :
    Calls Tryz.prog 88 #[.slice A n c, .slice A' n' c', .func (.func 89) #[] #[]] w fun e w' => e = .returned (.bool (tb (l.map DiskFile.name = m))) ∧ Below w.heap.size w w' := by
  obtain ⟨rfl, hc, hm⟩ := h.nlen
  obtain ⟨rfl, hc', hm'⟩ := h'.nlen
  unfold maxLen at hm hm'
  have H := hide h
  have H' := hide h'
  clear h h'
  by_cases hl : l.length = m.length
  rotate_left
  · have e1 : ((l.length : Int) == (m.length : Int)) = false := by simp; omega
    have e2 : ((l.length : Int) != (m.length : Int)) = true := by simp; omega
    have HT := hide (tb_false (p := l.map DiskFile.name = m) (fun e => hl (by rw [← e, List.length_map])))
    clear hl
    go_enter Tryz.func88, Tryz.ntmps88
    go_wp2
    all_goals (go_ret; exact ⟨ret_bool HT.out.symm, Below.refl _ _⟩)
  have HLEN := hide hl
  have e1 : ((l.length : Int) == (m.length : Int)) = true := by simp; omega
  have e2 : ((l.length : Int) != (m.length : Int)) = false := by simp; omega
  clear hl
  go_enter Tryz.func88, Tryz.ntmps88
  go_wp2
  clear e1 e2
  go_loopw [17] (fun i wr => (∃ j : Nat, j ≤ l.length ∧ i = .int .i64 j ∧ ∀ a (h : a < l.length) (h2 : a < m.length), a < j → l[a].name = m[a]) ∧ Below w.heap.size w wr) (fun i _ => l.length - (intOf i).toNat)
  case atStart => exact ⟨⟨0, Nat.zero_le _, rfl, fun a h1 h2 h => absurd h (by omega)⟩, Below.refl _ _⟩
  case round =>
    obtain ⟨⟨j, hj, rfl, ha⟩, hbw⟩ := hrel
    have HA := hide ha
    have HB := hide hbw
    clear ha hbw
    by_cases hlt : j < l.length
    · obtain ⟨g, off, ws, fi, rfl, hgm, hfi, hwl, hcs, hov⟩ := (H.out.below HB.out hf).elem DiskFile.cells_len hlt
      have hlt2 : j < m.length := by have := HLEN.out; omega
      obtain ⟨g', off', rfl, hgm', hcell', hsm⟩ := strs_at (H'.out.below HB.out hf') hlt2
      have hgw' := Nat.lt_of_lt_of_le (hf' _ hgm') HB.out.size
      obtain ⟨rfl, hs0, hs1, hw2, rfl⟩ := hov.oDiskFile
      have p0 := hcs 0 _ rfl
      have p1 := hcs 1 _ rfl
      have p2 := hcs 2 _ rfl
      simp only [Nat.add_zero] at p0
      clear hcs hov hfi
      have hst := hide (fun (hx : l[j].name = m[j]) (a : Nat) (h : a < l.length) (h2 : a < m.length) (hl : a < j + 1) => show l[a].name = m[a] from by
        by_cases e : a < j
        · exact HA.out a h h2 e
        · obtain rfl : a = j := by omega
          exact hx)
      have hno := hide (fun (hx : ¬ l[j].name = m[j]) => tb_false (p := l.map DiskFile.name = m) (fun e => hx (by
        have h4 := List.getElem_of_eq e (i := j) (by rw [List.length_map]; exact hlt)
        rw [List.getElem_map] at h4
        exact h4)))
      have hba := hide ((Below.refl wr.heap.size wr).alloc (Nat.le_refl _) (.cells #[.string l[j].name, .string l[j].data, .int .i64 l[j].kept] 116))
      generalize l[j] = y at *
      generalize m[j] = x at *
      go_wp2_with fail
      refine (eqClosure_any y x _).mono ?_
      rintro e w2 ⟨rfl, hb2⟩
      have HB2 := hide (HB.out.trans ((hba.out.mono HB.out.size).trans (hb2.mono (by rw [World.size_alloc]; have := HB.out.size; omega))))
      clear hb2
      by_cases hx : y.name = x
      · rw [tb_true hx]
        have HX := hide (hst.out hx)
        clear hx
        go_wp2
        go_roundw
        case rel => exact ⟨⟨j + 1, by omega, by go_num, HX.out⟩, HB2.out⟩
        case measure => simp [intOf]; omega
      · rw [tb_false hx]
        have HX := hide (hno.out hx)
        clear hx
        go_wp2
        go_ret
        exact ⟨ret_bool HX.out.symm, HB2.out⟩
    · obtain rfl : j = l.length := by omega
      have HX := hide (tb_true (p := l.map DiskFile.name = m) (by
        refine List.ext_getElem (by rw [List.length_map]; exact HLEN.out) (fun i h1 h2 => ?_)
        rw [List.length_map] at h1
        rw [List.getElem_map]
        exact HA.out i h1 h2 h1))
      go_wp2
      go_ret
      exact ⟨ret_bool HX.out.symm, HB.out⟩
end Go.Proofs.YtddjgbhkfdpffaaGreatDoor
set_option linter.unusedVariables false
set_option linter.unusedSimpArgs false
namespace Go.Proofs.YtddjgbhkfdpffaaGreatDoor
open Go.ChangeShapes Go.WideShapes Go.ChangeAt Go.RowKit

set_option maxRecDepth 100000 in
set_option maxHeartbeats 4000000 in
theorem implDiskOk_any (d : Disk) (us0 : List Value) (fp : List Nat) (w : World) (h : OwC w d.cells us0 fp) (hf : Lt fp w.heap.size) (hbk : d.bulk ≤ 1048576) :
    Calls Tryz.prog 39 #[.agg us0.toArray] w fun e w' => e = .returned (.bool (tb d.ok)) ∧ Below w.heap.size w w' := by
  have HOC := hide h
  obtain ⟨A1, c1, A2, c2, A3, c3, f1, f2, f3, rfl, o1, o2, o3, rfl⟩ := h.oDisk
  clear h
  obtain ⟨_, hc1, hm1⟩ := o1.nlen
  obtain ⟨_, hc2, hm2⟩ := o2.nlen
  obtain ⟨_, hc3, hm3⟩ := o3.nlen
  unfold maxLen at hm1 hm2 hm3
  have hkb := d.bulk_eq
  unfold bulkStrs DiskFile.bulkL DiskMove.bulkL at hkb
  have RD : Row (w.alloc (.cells #[.slice A1 d.files.length c1, .slice A2 d.names.length c2, .slice A3 d.moves.length c3] 38)) w.heap.size 38 [.slice A1 d.files.length c1, .slice A2 d.names.length c2, .slice A3 d.moves.length c3] := Row.new w _ _
  obtain ⟨W1, hW1⟩ : ∃ W1, w.alloc (.cells #[.slice A1 d.files.length c1, .slice A2 d.names.length c2, .slice A3 d.moves.length c3] 38) = W1 := ⟨_, rfl⟩
  have hB1 : Below w.heap.size w W1 := hW1 ▸ (Below.refl _ _).alloc (Nat.le_refl _) _
  have hszW : w.heap.size + 1 ≤ W1.heap.size := by rw [← hW1, World.size_alloc]; exact Nat.le_refl _
  rw [hW1] at RD
  have HB1 := hide hB1
  have HRD := hide RD
  have O1 := hide o1
  have O2 := hide (o2.below hB1 hf.right.left)
  have O3 := hide o3
  have d0 : W1.cell? ⟨w.heap.size, 0, none⟩ = some (.slice A1 d.files.length c1) := RD.cell 0
  have d1 : W1.cell? ⟨w.heap.size, 1, none⟩ = some (.slice A2 d.names.length c2) := RD.cell 1
  have d2 : W1.cell? ⟨w.heap.size, 2, none⟩ = some (.slice A3 d.moves.length c3) := RD.cell 2
  have ld := RD.lt
  obtain ⟨ia, hia, ha0, ha1, ha2⟩ := info_parts info_string
  have HIa := hide hia
  have HIF := hide (d.ok_I)
  clear o1 o2 o3 hB1 RD hia
  by_cases ha : d.files.length ≤ 64
  rotate_left
  · have hx1 : decide ((64 : Int) < (d.files.length : Int)) = true := by simp; omega
    have HF := hide (tb_false (fun k => ha (HIF.out.1 k).1))
    clear ha
    go_enter Tryz.func39, Tryz.ntmps39
    go_wp2
    all_goals (go_ret; exact ⟨ret_bool HF.out.symm, HB1.out⟩)
  have hx1 : decide ((64 : Int) < (d.files.length : Int)) = false := by simp; omega
  by_cases hb : d.moves.length ≤ 128
  rotate_left
  · have hx2 : decide ((128 : Int) < (d.moves.length : Int)) = true := by simp; omega
    have HF := hide (tb_false (fun k => hb (HIF.out.1 k).2.1))
    clear hb
    go_enter Tryz.func39, Tryz.ntmps39
    go_wp2
    all_goals (go_ret; exact ⟨ret_bool HF.out.symm, HB1.out⟩)
  have hx2 : decide ((128 : Int) < (d.moves.length : Int)) = false := by simp; omega
  go_enter Tryz.func39, Tryz.ntmps39
  go_wp2_with fail
  refine (cloneStr_any d.names _ _ _ _ W1 O2.out (by omega)).mono ?_
  rintro e w2 ⟨v2, rfl, hs2, hb2⟩
  obtain ⟨A', c', rfl⟩ := hs2.form
  have HRD2 := hide (HRD.out.below hb2 ld)
  have HB2 := hide (HB1.out.trans (hb2.mono (by omega)))
  have HS0 := hide (show OwS w2 (w.heap.size + 1) 9 1 strC (.slice A' d.names.length c') (d.made 0) (d.names.map Value.string) [] from by rw [d.made_zero]; exact hs2.lower hszW)
  have d2 : w2.cell? ⟨w.heap.size, 2, none⟩ = some (.slice A3 d.moves.length c3) := HRD2.out.cell 2
  have ld2 := HRD2.out.lt
  clear d0 d1 hs2 hb2 HRD HB1 O2
  go_wp2
  clear d2 ld2 hx1 hx2
  go_loopw [3, 24] (fun s i wr => ∃ (j : Nat) (A' : Option Addr) (n' c' : Nat) (us : List Value), j ≤ d.moves.length ∧ s = .slice A' n' c' ∧ i = .int .i64 (j : Int) ∧ OwS wr (w.heap.size + 1) 9 1 strC (.slice A' n' c') (d.made j) us [] ∧ (∀ a (h : a < d.moves.length), a < j → d.moves[a].gone = true → d.moves[a].name ∈ d.afterI a) ∧ Below w.heap.size w wr ∧ Row wr w.heap.size 38 [.slice A1 d.files.length c1, .slice A2 d.names.length c2, .slice A3 d.moves.length c3]) (fun _ i _ => d.moves.length - (intOf i).toNat)
  case atStart => exact ⟨0, _, _, _, _, Nat.zero_le _, rfl, rfl, HS0.out, fun a h1 h => absurd h (by omega), HB2.out, HRD2.out⟩
  case round =>
    clear HS0 HB2 HRD2
    obtain ⟨j, A', n', c', us, hj, rfl, rfl, hs, ha', hb', hrd⟩ := hrel
    have HA := hide ha'
    have HB := hide hb'
    have HRD := hide hrd
    have hsz := hb'.size
    have hsz1 : w.heap.size + 1 ≤ wr.heap.size := hrd.lt
    have hal := made_len d j
    clear ha' hb' hrd
    by_cases hlt : j < d.moves.length
    · obtain ⟨g, off, ws, fi, rfl, hgm, hfi, hwl, hcs, hov⟩ := (O3.out.below HB.out hf.right.right).elem DiskMove.cells_len hlt
      have HSN := hide (d.made_succ j hlt)
      have hgl := hf.right.right _ hgm
      have hgw := Nat.lt_of_lt_of_le hgl hsz
      obtain ⟨rfl, hs1, rfl⟩ := hov.oDiskMove
      have p0 := hcs 0 _ rfl
      have p1 := hcs 1 _ rfl
      simp only [Nat.add_zero] at p0
      clear hcs hov
      have HST := hide (fun (h : d.moves[j].gone = true → d.moves[j].name ∈ d.afterI j) (a : Nat) (h1 : a < d.moves.length) (h2 : a < j + 1) => show d.moves[a].gone = true → d.moves[a].name ∈ d.afterI a from by
        by_cases e : a < j
        · exact HA.out a h1 e
        · obtain rfl : a = j := by omega
          exact h)
      have HNX : Hid (d.moves[j].gone = true → ¬ d.moves[j].name ∈ d.afterI j → tb d.ok = false) := hide (fun h1 h2 => tb_false (fun k => h2 ((HIF.out.1 k).2.2.2.2 j hlt h1)))
      have HNM := hide (fun (W : World) (hb : Below w.heap.size w W) => implNames_any d _ _ j W (HOC.out.below hb hf) (hf.up hb) hbk (Nat.le_of_lt hlt))
      obtain ⟨y, hy⟩ : ∃ y, d.moves[j] = y := ⟨_, rfl⟩
      rw [hy] at p0 p1 hs1 HSN HST HNX
      clear hy
      by_cases hg : y.gone = true
      · have HE := hide (show d.made (j + 1) = d.made j from by rw [HSN.out]; unfold DiskMove.makes; rw [if_pos hg, List.append_nil])
        have HSG := hide (fun h => HST.out (fun _ => h))
        have HNG := hide (HNX.out hg)
        rw [hg] at p0
        obtain ⟨wa, hwa⟩ : ∃ wa, wr.alloc (.cells #[.bool true, .string y.name] 119) = wa := ⟨_, rfl⟩
        have HBA := hide (show Below wr.heap.size wr wa from hwa ▸ (Below.refl wr.heap.size wr).alloc (Nat.le_refl _) _)
        have HBW := hide (HB.out.trans (HBA.out.mono hsz))
        have RA : Row wa wr.heap.size 119 [.bool true, .string y.name] := hwa ▸ Row.new wr _ _
        have a0 := RA.cell 0
        have a1 := RA.cell 1
        have la := RA.lt
        have HRA := hide (HRD.out.below HBA.out HRD.out.lt)
        have d0 : wa.cell? ⟨w.heap.size, 0, none⟩ = some (.slice A1 d.files.length c1) := HRA.out.cell 0
        have d1 : wa.cell? ⟨w.heap.size, 1, none⟩ = some (.slice A2 d.names.length c2) := HRA.out.cell 1
        have d2 : wa.cell? ⟨w.heap.size, 2, none⟩ = some (.slice (some ⟨g, off, none⟩) d.moves.length c3) := HRA.out.cell 2
        have ldx := HRA.out.lt
        have HSA := hide (hs.below (C := 0) HBA.out)
        have HS1 := hide hs
        have d2r : wr.cell? ⟨w.heap.size, 2, none⟩ = some (.slice (some ⟨g, off, none⟩) d.moves.length c3) := HRD.out.cell 2
        clear HST HNX HSN hs hg RA
        generalize d.afterI j = L at *
        go_upto_region 9 with fail
        go_region_held3 (fun w' => w'.cell? ⟨w.heap.size, 0, none⟩ = some (.slice A1 d.files.length c1) ∧ w'.cell? ⟨w.heap.size, 1, none⟩ = some (.slice A2 d.names.length c2) ∧ w'.cell? ⟨w.heap.size, 2, none⟩ = some (.slice (some ⟨g, off, none⟩) d.moves.length c3) ∧ w'.cell? ⟨wr.heap.size, 1, none⟩ = some (.string y.name))
          (first | exact ⟨kcell2 d0 hbz ldx, kcell2 d1 hbz ldx, kcell2 d2 hbz ldx, kcell2 a1 hbz la⟩ | go_keep)
          (first
            | (go_at_call 84; refine (containsStr_any L _ _ _ _ _ _ hof).mono ?_; rintro e w3 ⟨rfl, rfl⟩)
            | (go_at_call 85; refine (HNM.out _ (below_drewN HBW.out _)).mono ?_; rintro e w3 ⟨v3, us3, rfl, hs3, hb3⟩; obtain ⟨A3', c3', rfl⟩ := hs3.form; obtain ⟨fo, hof, _, _⟩ := hs3.toOw'; have hbz : Below wa.heap.size wa w3 := (below_drewN (Below.refl _ wa) _).trans hb3))
        all_goals
          have HBZ := hide (HBW.out.trans (hbz.mono HBW.out.size))
          have HRZ := hide (HRA.out.below hbz ldx)
          have HSZ := hide (HSA.out.below (C := 0) hbz)
          clear hs3 hb3 hof hbz
          by_cases hin : y.name ∈ L
          · have ht := tb_true hin
            have HS := hide (HSG.out hin)
            clear hin HSG HNG
            rw [ht]
            go_wp2
            go_roundw
            case rel => exact ⟨j + 1, _, _, _, _, by omega, rfl, by go_num, by rw [HE.out]; exact HSZ.out, HS.out, HBZ.out, HRZ.out⟩
            case measure => simp [intOf]; omega
          · have ht := tb_false hin
            have HS := hide (HNG.out hin)
            clear hin HSG HNG
            rw [ht]
            go_wp2
            go_ret
            exact ⟨ret_bool HS.out.symm, HBZ.out⟩
      · have hg' : y.gone = false := by simpa using hg
        have HE := hide (show d.made (j + 1) = d.made j ++ [y.name] from by rw [HSN.out]; unfold DiskMove.makes; rw [if_neg hg])
        have HST2 := hide (HST.out (fun h => absurd h hg))
        rw [hg'] at p0
        obtain ⟨wa, hwa⟩ : ∃ wa, wr.alloc (.cells #[.bool false, .string y.name] 119) = wa := ⟨_, rfl⟩
        have HBA := hide (show Below wr.heap.size wr wa from hwa ▸ (Below.refl wr.heap.size wr).alloc (Nat.le_refl _) _)
        have hsa : wr.heap.size + 1 ≤ wa.heap.size := by rw [← hwa, World.size_alloc]; exact Nat.le_refl _
        have RA : Row wa wr.heap.size 119 [.bool false, .string y.name] := hwa ▸ Row.new wr _ _
        have a0 := RA.cell 0
        have a1 := RA.cell 1
        have la := RA.lt
        have HSA := hide (hs.below (C := 0) HBA.out)
        have HRA := hide (HRD.out.below HBA.out HRD.out.lt)
        have HS := hide (HSA.out.alloc (.cells #[.string y.name] 9))
        have HDS := hide (fun W => str_src y.name hs1 W)
        have d2 : wr.cell? ⟨w.heap.size, 2, none⟩ = some (.slice (some ⟨g, off, none⟩) d.moves.length c3) := HRD.out.cell 2
        have ldx := HRD.out.lt
        clear HSN hs hg hg' RA HST HNX HNM
        generalize d.made j = L at *
        go_wp2_with (first | (at_builtin; refine wpl_app rfl _ _ 23 rfl ia _ 16 Tryz.underlying23 HIa.out ha0 ha1 ha2 rfl (by decide) strC_len rfl HS.out [y.name] (HDS.out _) (by exact New.nil _ _) (fun g _ hg => by cases hg) _ 1 1 rfl rfl (SrcAt.new wa _ _ _ _) (by omega) (by decide) (by rw [World.size_alloc]; omega) ?_; intro A5 n5 c5 w5 hn5 hown5 hgb5; have HG5 := hide hgb5; have HN5 := hide hown5; clear hown5 hgb5 hn5))
        go_roundw
        case rel => exact ⟨j + 1, A5, n5, c5, _, by omega, rfl, by go_num, by rw [HE.out]; exact HN5.out, HST2.out, HB.out.trans (((HBA.out.mono hsz).alloc (by omega) _).trans (HG5.out.toBelow (by rw [World.size_alloc]; omega) (fun g e => Nat.le_of_succ_le (HS.out.from e)))), HG5.out.row (HRA.out.alloc _) (HS.out.low (Nat.lt_succ_self _))⟩
        case measure => simp [intOf]; omega
    · obtain rfl : j = d.moves.length := by omega
      obtain ⟨A', c', e0⟩ := hs.form
      injection e0 with e01 e02 e03
      subst e01 e02 e03
      have HMOVES := hide (fun a (h : a < d.moves.length) => HA.out a h h)
      have HS1 := hide hs
      have d0 : wr.cell? ⟨w.heap.size, 0, none⟩ = some (.slice A1 d.files.length c1) := HRD.out.cell 0
      have ldx := HRD.out.lt
      clear hs HA hsz hsz1
      go_wp2
      clear d0 ldx
      go_loopw [48] (fun i wx => ∃ j : Nat, j ≤ d.files.length ∧ i = .int .i64 (j : Int) ∧ (∀ a (h : a < d.files.length), a < j → d.files[a].fine ∧ d.firstAt a) ∧ Below w.heap.size w wx ∧ Row wx w.heap.size 38 [.slice A1 d.files.length c1, .slice A2 d.names.length c2, .slice A3 d.moves.length c3] ∧ OwS wx (w.heap.size + 1) 9 1 strC (.slice A' (d.made d.moves.length).length c') (d.made d.moves.length) us []) (fun i _ => d.files.length - (intOf i).toNat)
      case atStart => exact ⟨0, Nat.zero_le _, rfl, fun a h1 h => absurd h (by omega), HB.out, HRD.out, HS1.out⟩
      case round =>
        clear HB HRD HS1
        obtain ⟨j, hj, rfl, ha', hbs, hrs, hss⟩ := hrel
        have HA := hide ha'
        have HBX := hide hbs
        have HRX := hide hrs
        have HSX := hide hss
        clear ha' hbs hrs hss
        by_cases hlt : j < d.files.length
        · obtain ⟨g, off, ws', fi, rfl, hgm, hfi, hwl, hcs, hov⟩ := (O1.out.below HBX.out hf.left).elem DiskFile.cells_len hlt
          obtain ⟨rfl, hs0, hs1, hw2, rfl⟩ := hov.oDiskFile
          have hgl := hf.left _ hgm
          have hgw := Nat.lt_of_lt_of_le hgl HBX.out.size
          have p0 := hcs 0 _ rfl
          have p1 := hcs 1 _ rfl
          have p2 := hcs 2 _ rfl
          simp only [Nat.add_zero] at p0
          have HST := hide (fun (h : d.files[j].fine ∧ d.firstAt j) (a : Nat) (h1 : a < d.files.length) (h2 : a < j + 1) => show d.files[a].fine ∧ d.firstAt a from by
            by_cases e : a < j
            · exact HA.out a h1 e
            · obtain rfl : a = j := by omega
              exact h)
          have HNX : Hid (¬ (d.files[j].fine ∧ d.firstAt j) → tb d.ok = false) := hide (fun h => tb_false (fun k => h ((HIF.out.1 k).2.2.1 j hlt)))
          have HFL : Hid (∀ z : Int, FindIs d.files d.files[j].name z → (d.firstAt j ↔ (j : Int) ≤ z)) := hide (fun z hz => by
            refine ⟨fun h => Int.le_of_eq ((FindIs.first hlt h).uniq hz), fun h => ?_⟩
            rcases hz with ⟨k, rfl, ⟨hk, ek⟩, hn⟩ | ⟨rfl, hn⟩
            · intro a h1 h2 h3
              exact hn a h1 (by omega)
            · omega)
          have HAT := hide (fun (W : World) (hb : Below w.heap.size w W) => fileAt_any d _ _ d.files[j].name W (HOC.out.below hb hf) (hf.up hb))
          obtain ⟨y, hy⟩ : ∃ y, d.files[j] = y := ⟨_, rfl⟩
          rw [hy] at p0 p1 p2 hs0 hs1 hw2 HST HNX HFL HAT
          unfold DiskFile.fine at HST HNX
          clear hy
          obtain ⟨wa, hwa⟩ : ∃ wa, wr.alloc (.cells #[.string y.name, .string y.data, .int .i64 y.kept] 116) = wa := ⟨_, rfl⟩
          have HBA := hide (show Below wr.heap.size wr wa from hwa ▸ (Below.refl wr.heap.size wr).alloc (Nat.le_refl _) _)
          have HBW := hide (HBX.out.trans (HBA.out.mono HBX.out.size))
          have HSA := hide (HSX.out.below (C := 0) HBA.out)
          have RA : Row wa wr.heap.size 116 [.string y.name, .string y.data, .int .i64 y.kept] := hwa ▸ Row.new wr _ _
          have HRR := hide RA
          have a0 := RA.cell 0
          have a1 := RA.cell 1
          have a2 := RA.cell 2
          have la := RA.lt
          have HRA := hide (HRX.out.below HBA.out HRX.out.lt)
          have d0 : wa.cell? ⟨w.heap.size, 0, none⟩ = some (.slice (some ⟨g, off, none⟩) d.files.length c1) := HRA.out.cell 0
          have d1 : wa.cell? ⟨w.heap.size, 1, none⟩ = some (.slice A2 d.names.length c2) := HRA.out.cell 1
          have d2 : wa.cell? ⟨w.heap.size, 2, none⟩ = some (.slice A3 d.moves.length c3) := HRA.out.cell 2
          have ldx := HRA.out.lt
          clear hcs hov RA
          by_cases t1 : NameOk y.name
          rotate_left
          · have HF := hide (HNX.out (fun h => t1 h.1.1))
            have HT1 := hide (tb_false t1)
            clear t1
            go_wp2_with fail
            refine (isName_any y.name _ hs0).mono ?_
            rintro e w3 ⟨rfl, rfl⟩
            rw [HT1.out]
            go_wp2
            go_ret
            exact ⟨ret_bool HF.out.symm, HBW.out⟩
          have HT1 := hide (tb_true t1)
          have HT1' := hide t1
          clear t1
          go_wp2_with fail
          refine (isName_any y.name _ hs0).mono ?_
          rintro e w3 ⟨rfl, rfl⟩
          rw [HT1.out]
          go_wp2_with fail
          refine (HAT.out wa HBW.out).mono ?_
          rintro e w3 ⟨z, rfl, hz, hb3⟩
          have HZ := hide (HFL.out z hz)
          have HBQ := hide (HBW.out.trans (hb3.mono HBW.out.size))
          have HSA3 := hide (HSA.out.below (C := 0) hb3)
          have HRA3 := hide (HRA.out.below hb3 ldx)
          have HR3 := hide (HRR.out.below hb3 la)
          have b0 : w3.cell? ⟨wr.heap.size, 0, none⟩ = some (.string y.name) := HR3.out.cell 0
          have b1 : w3.cell? ⟨wr.heap.size, 1, none⟩ = some (.string y.data) := HR3.out.cell 1
          have b2 : w3.cell? ⟨wr.heap.size, 2, none⟩ = some (.int .i64 y.kept) := HR3.out.cell 2
          have lb := HR3.out.lt
          clear hz hb3 d0 d1 d2 ldx a0 a1 a2 la
          by_cases t2 : (j : Int) ≤ z
          rotate_left
          · have HF := hide (HNX.out (fun h => t2 (HZ.out.1 h.2)))
            have e2 : decide (z < (j : Int)) = true := by simp; omega
            clear t2
            go_wp2
            all_goals (go_ret; exact ⟨ret_bool HF.out.symm, HBQ.out⟩)
          have e2 : decide (z < (j : Int)) = false := by simp; omega
          have HT2 := hide (HZ.out.2 t2)
          clear t2
          by_cases t3 : y.data.size ≤ 20000
          rotate_left
          · have HF := hide (HNX.out (fun h => t3 h.1.2.1))
            have e3 : decide ((20000 : Int) < (y.data.size : Int)) = true := by simp; omega
            clear t3
            go_wp2
            all_goals (go_ret; exact ⟨ret_bool HF.out.symm, HBQ.out⟩)
          have e3 : decide ((20000 : Int) < (y.data.size : Int)) = false := by simp; omega
          have HT3 := hide t3
          clear t3
          go_wp2_with fail
          refine (inRange_any _ _ _ _).mono ?_
          rintro e w4 ⟨rfl, rfl⟩
          by_cases t4 : 0 ≤ y.kept ∧ y.kept ≤ (y.data.size : Int)
          rotate_left
          · have HF := hide (HNX.out (fun h => t4 h.1.2.2))
            rw [tb_false t4]
            clear t4
            go_wp2
            all_goals (go_ret; exact ⟨ret_bool HF.out.symm, HBQ.out⟩)
          have HS := hide (HST.out ⟨⟨HT1'.out, HT3.out, t4.1, t4.2⟩, HT2.out⟩)
          rw [tb_true t4]
          clear t4 HNX HST HZ
          go_wp2
          go_roundw
          case rel => exact ⟨j + 1, by omega, by go_num, HS.out, HBQ.out, HRA3.out, HSA3.out⟩
          case measure => simp [intOf]; omega
        · obtain rfl : j = d.files.length := by omega
          have HFILES := hide (show d.filesOk from fun a h => HA.out a h h)
          obtain ⟨fo, hof, hon, _⟩ := HSX.out.toOw'
          have HOF := hide hof
          have HON := hide hon.lt
          have HEQ := hide (fun (W : World) (hw : wr = W) => eqFiles_any d.files (d.made d.moves.length) A1 d.files.length c1 f1 A' (d.made d.moves.length).length c' fo W (hw ▸ O1.out.below HBX.out hf.left) (hw ▸ hf.left.up HBX.out) (hw ▸ HOF.out) (hw ▸ HON.out))
          have d0 : wr.cell? ⟨w.heap.size, 0, none⟩ = some (.slice A1 d.files.length c1) := HRX.out.cell 0
          have ldx := HRX.out.lt
          clear hof hon
          go_wp2_with fail
          refine (HEQ.out _ rfl).mono ?_
          rintro e w4 ⟨rfl, hb4⟩
          have HB4 := hide (HBX.out.trans (hb4.mono HBX.out.size))
          have HT := hide (show tb (d.files.map DiskFile.name = d.made d.moves.length) = tb d.ok from congrArg tb (propext ⟨fun h => HIF.out.2 ⟨ha, hb, HFILES.out, h, HMOVES.out⟩, fun k => (HIF.out.1 k).2.2.2.1⟩))
          clear hb4 HEQ
          go_wp2
          go_ret
          exact ⟨ret_bool HT.out, HB4.out⟩
end Go.Proofs.YtddjgbhkfdpffaaGreatDoor
