/-
  Disks: the program's fileAt (IndexFunc with a closure that captures), EqualFunc on files and names.
-/
import Derived.Test.YtdingkbggjehoaaDiskI
import Derived.Test.YtdingkbggjehoaaDiskOkW
set_option linter.unusedVariables false
set_option linter.unusedSimpArgs false
namespace Go.Proofs.Ytdingkbggjehoaa
open Go.ChangeShapes Go.WideShapes Go.ChangeAt Go.RowKit

set_option maxRecDepth 100000 in
theorem atClosure_any (y : DiskFile) (x : ByteArray) (b : Nat) (w : World) (hx : w.cell? ⟨b, 0, none⟩ = some (.string x)) (hb : b < w.heap.size) :
    Calls Try.prog 177 #[.agg #[.string y.name, .string y.data, .int .i64 y.kept], .pointer (some ⟨b, 0, none⟩)] w fun e w' => e = .returned (.bool (tb (y.name = x))) ∧ Below w.heap.size w w' := by
  have hw1 := hide (show Below w.heap.size w (w.alloc (.cells #[.string y.name, .string y.data, .int .i64 y.kept] 143)) from (Below.refl _ _).alloc (Nat.le_refl _) _)
  have hx' := (hw1.out.cell (p := ⟨b, 0, none⟩) hb).trans hx
  by_cases he : y.name = x
  · have e1 := txt_yes he
    have HT := hide (tb_true he)
    clear he
    go_enter Try.func177, Try.ntmps177
    go_wp2
    go_ret
    exact ⟨ret_bool HT.out.symm, hw1.out⟩
  · have e1 := txt_no he
    have HT := hide (tb_false he)
    clear he
    go_enter Try.func177, Try.ntmps177
    go_wp2
    go_ret
    exact ⟨ret_bool HT.out.symm, hw1.out⟩
set_option maxRecDepth 100000 in
theorem fileIndex_any (l : List DiskFile) (A : Option Addr) (n c : Nat) (fp : List Nat) (x : ByteArray) (b : Nat) (w : World) (h : Ow w (.s 3 l.length (l.flatMap DiskFile.cells)) (.slice A n c) fp) (hf : Lt fp w.heap.size) (hx : w.cell? ⟨b, 0, none⟩ = some (.string x)) (hb : b < w.heap.size) :
    Calls Try.prog 176 #[.slice A n c, .func (.func 177) #[] #[.pointer (some ⟨b, 0, none⟩)]] w fun e w' => ∃ z : Int, e = .returned (.int .i64 z) ∧ FindIs l x z ∧ Below w.heap.size w w' := by
  obtain ⟨rfl, hc, hm⟩ := h.nlen
  unfold maxLen at hm
  have H := hide h
  clear h
  go_enter Try.func176, Try.ntmps176
  go_wp2
  go_loopw [8] (fun i wr => (∃ j : Nat, j ≤ l.length ∧ i = .int .i64 j ∧ ∀ a (h : a < l.length), a < j → l[a].name ≠ x) ∧ Below w.heap.size w wr) (fun i _ => l.length - (intOf i).toNat)
  case atStart => exact ⟨⟨0, Nat.zero_le _, rfl, fun a h1 h => absurd h (by omega)⟩, Below.refl _ _⟩
  case round =>
    obtain ⟨⟨j, hj, rfl, ha⟩, hbw⟩ := hrel
    have HA := hide ha
    have HB := hide hbw
    have hbx := (hbw.cell (p := ⟨b, 0, none⟩) hb).trans hx
    have hbl := Nat.lt_of_lt_of_le hb hbw.size
    clear ha hbw
    by_cases hlt : j < l.length
    · obtain ⟨g, off, ws, fi, rfl, hgm, hfi, hwl, hcs, hov⟩ := (H.out.below HB.out hf).elem DiskFile.cells_len hlt
      obtain ⟨rfl, hs0, hs1, hw2, rfl⟩ := hov.oDiskFile
      have p0 := hcs 0 _ rfl
      have p1 := hcs 1 _ rfl
      have p2 := hcs 2 _ rfl
      simp only [Nat.add_zero] at p0
      clear hcs hov hfi
      have hst := hide (fun (hx : l[j].name ≠ x) (a : Nat) (h : a < l.length) (hl : a < j + 1) => show l[a].name ≠ x from by
        by_cases e : a < j
        · exact HA.out a h e
        · obtain rfl : a = j := by omega
          exact hx)
      have hyes := hide (fun (hx : l[j].name = x) => show FindIs l x (j : Int) from .inl ⟨j, rfl, ⟨hlt, hx⟩, HA.out⟩)
      have HC := hide (atClosure_any l[j] x b wr hbx hbl)
      generalize l[j] = y at *
      go_wp2_with fail
      refine HC.out.mono ?_
      rintro e w2 ⟨rfl, hb2⟩
      have HB2 := hide (HB.out.trans (hb2.mono HB.out.size))
      clear hb2 HC
      by_cases hx : y.name = x
      · rw [tb_true hx]
        have HX := hide (hyes.out hx)
        clear hx
        go_wp2
        go_ret
        exact ⟨_, rfl, HX.out, HB2.out⟩
      · rw [tb_false hx]
        have HX := hide (hst.out hx)
        clear hx
        go_wp2
        go_roundw
        case rel => exact ⟨⟨j + 1, by omega, by go_num, HX.out⟩, HB2.out⟩
        case measure => simp [intOf]; omega
    · obtain rfl : j = l.length := by omega
      have HX := hide (show FindIs l x (-1) from .inr ⟨rfl, fun i h => HA.out i h h⟩)
      go_wp2
      go_ret
      exact ⟨_, rfl, HX.out, HB.out⟩
set_option maxRecDepth 100000 in
theorem fileAt_any (d : Disk) (us0 : List Value) (fp : List Nat) (x : ByteArray) (w : World) (h : OwC w d.cells us0 fp) (hf : Lt fp w.heap.size) :
    Calls Try.prog 129 #[.agg us0.toArray, .string x] w fun e w' => ∃ z : Int, e = .returned (.int .i64 z) ∧ FindIs d.files x z ∧ Below w.heap.size w w' := by
  obtain ⟨A1, c1, A2, c2, A3, c3, f1, f2, f3, rfl, o1, o2, o3, rfl⟩ := h.oDisk
  clear h
  have hB := hide (show Below w.heap.size w ((w.alloc (.cells #[.slice A1 d.files.length c1, .slice A2 d.names.length c2, .slice A3 d.moves.length c3] 83)).alloc (.cells #[.string x] 9)) from ((Below.refl _ _).alloc (Nat.le_refl _) _).alloc (by rw [World.size_alloc]; omega) _)
  have O1 := hide (o1.below hB.out hf.left)
  have HL := hide (hf.left.up hB.out)
  have hx : ((w.alloc (.cells #[.slice A1 d.files.length c1, .slice A2 d.names.length c2, .slice A3 d.moves.length c3] 83)).alloc (.cells #[.string x] 9)).cell? ⟨w.heap.size + 1, 0, none⟩ = some (.string x) := by
    have h := (Row.new (w.alloc (.cells #[.slice A1 d.files.length c1, .slice A2 d.names.length c2, .slice A3 d.moves.length c3] 83)) 9 [.string x]).cell 0
    rw [World.size_alloc] at h
    exact h
  have HI := hide (fileIndex_any d.files A1 d.files.length c1 f1 x (w.heap.size + 1) _ O1.out HL.out hx (by rw [World.size_alloc, World.size_alloc]; omega))
  clear o1 o2 o3 hx
  go_enter Try.func129, Try.ntmps129
  go_wp2_with fail
  refine HI.out.mono ?_
  rintro e w2 ⟨z, rfl, hz, hb2⟩
  have HZ := hide hz
  have HB2 := hide (hB.out.trans (hb2.mono hB.out.size))
  clear hz hb2
  go_wp2
  go_ret
  exact ⟨z, rfl, HZ.out, HB2.out⟩
set_option maxRecDepth 100000 in
theorem eqClosure_any (y : DiskFile) (x : ByteArray) (w : World) :
    Calls Try.prog 131 #[.agg #[.string y.name, .string y.data, .int .i64 y.kept], .string x] w fun e w' => e = .returned (.bool (tb (y.name = x))) ∧ Below w.heap.size w w' := by
  have hw1 := hide (show Below w.heap.size w (w.alloc (.cells #[.string y.name, .string y.data, .int .i64 y.kept] 143)) from (Below.refl _ _).alloc (Nat.le_refl _) _)
  by_cases he : y.name = x
  · have e1 := txt_yes he
    have HT := hide (tb_true he)
    clear he
    go_enter Try.func131, Try.ntmps131
    go_wp2
    go_ret
    exact ⟨ret_bool HT.out.symm, hw1.out⟩
  · have e1 := txt_no he
    have HT := hide (tb_false he)
    clear he
    go_enter Try.func131, Try.ntmps131
    go_wp2
    go_ret
    exact ⟨ret_bool HT.out.symm, hw1.out⟩
set_option maxRecDepth 100000 in
theorem eqFiles_any (l : List DiskFile) (m : List ByteArray) (A : Option Addr) (n c : Nat) (fp : List Nat) (A' : Option Addr) (n' c' : Nat) (fq : List Nat) (w : World) (h : Ow w (.s 3 l.length (l.flatMap DiskFile.cells)) (.slice A n c) fp) (hf : Lt fp w.heap.size) (h' : Ow w (.s 1 m.length (m.flatMap strC)) (.slice A' n' c') fq) (hf' : Lt fq w.heap.size) :
    Calls Try.prog 130 #[.slice A n c, .slice A' n' c', .func (.func 131) #[] #[]] w fun e w' => e = .returned (.bool (tb (l.map DiskFile.name = m))) ∧ Below w.heap.size w w' := by
  obtain ⟨rfl, hc, hm⟩ := h.nlen
  obtain ⟨rfl, hc', hm'⟩ := h'.nlen
  unfold maxLen at hm hm'
  have H := hide h
  have H' := hide h'
  clear h h'
  by_cases hl : l.length = m.length
  rotate_left
  · have e1 : ((l.length : Int) == (m.length : Int)) = false := by simp; omega
    have e2 : ((l.length : Int) != (m.length : Int)) = true := by simp; omega
    have HT := hide (tb_false (p := l.map DiskFile.name = m) (fun e => hl (by rw [← e, List.length_map])))
    clear hl
    go_enter Try.func130, Try.ntmps130
    go_wp2
    all_goals (go_ret; exact ⟨ret_bool HT.out.symm, Below.refl _ _⟩)
  have HLEN := hide hl
  have e1 : ((l.length : Int) == (m.length : Int)) = true := by simp; omega
  have e2 : ((l.length : Int) != (m.length : Int)) = false := by simp; omega
  clear hl
  go_enter Try.func130, Try.ntmps130
  go_wp2
  clear e1 e2
  go_loopw [17] (fun i wr => (∃ j : Nat, j ≤ l.length ∧ i = .int .i64 j ∧ ∀ a (h : a < l.length) (h2 : a < m.length), a < j → l[a].name = m[a]) ∧ Below w.heap.size w wr) (fun i _ => l.length - (intOf i).toNat)
  case atStart => exact ⟨⟨0, Nat.zero_le _, rfl, fun a h1 h2 h => absurd h (by omega)⟩, Below.refl _ _⟩
  case round =>
    obtain ⟨⟨j, hj, rfl, ha⟩, hbw⟩ := hrel
    have HA := hide ha
    have HB := hide hbw
    clear ha hbw
    by_cases hlt : j < l.length
    · obtain ⟨g, off, ws, fi, rfl, hgm, hfi, hwl, hcs, hov⟩ := (H.out.below HB.out hf).elem DiskFile.cells_len hlt
      have hlt2 : j < m.length := by have := HLEN.out; omega
      obtain ⟨g', off', rfl, hgm', hcell', hsm⟩ := strs_at (H'.out.below HB.out hf') hlt2
      have hgw' := Nat.lt_of_lt_of_le (hf' _ hgm') HB.out.size
      obtain ⟨rfl, hs0, hs1, hw2, rfl⟩ := hov.oDiskFile
      have p0 := hcs 0 _ rfl
      have p1 := hcs 1 _ rfl
      have p2 := hcs 2 _ rfl
      simp only [Nat.add_zero] at p0
      clear hcs hov hfi
      have hst := hide (fun (hx : l[j].name = m[j]) (a : Nat) (h : a < l.length) (h2 : a < m.length) (hl : a < j + 1) => show l[a].name = m[a] from by
        by_cases e : a < j
        · exact HA.out a h h2 e
        · obtain rfl : a = j := by omega
          exact hx)
      have hno := hide (fun (hx : ¬ l[j].name = m[j]) => tb_false (p := l.map DiskFile.name = m) (fun e => hx (by
        have h4 := List.getElem_of_eq e (i := j) (by rw [List.length_map]; exact hlt)
        rw [List.getElem_map] at h4
        exact h4)))
      have hba := hide ((Below.refl wr.heap.size wr).alloc (Nat.le_refl _) (.cells #[.string l[j].name, .string l[j].data, .int .i64 l[j].kept] 143))
      generalize l[j] = y at *
      generalize m[j] = x at *
      go_wp2_with fail
      refine (eqClosure_any y x _).mono ?_
      rintro e w2 ⟨rfl, hb2⟩
      have HB2 := hide (HB.out.trans ((hba.out.mono HB.out.size).trans (hb2.mono (by rw [World.size_alloc]; have := HB.out.size; omega))))
      clear hb2
      by_cases hx : y.name = x
      · rw [tb_true hx]
        have HX := hide (hst.out hx)
        clear hx
        go_wp2
        go_roundw
        case rel => exact ⟨⟨j + 1, by omega, by go_num, HX.out⟩, HB2.out⟩
        case measure => simp [intOf]; omega
      · rw [tb_false hx]
        have HX := hide (hno.out hx)
        clear hx
        go_wp2
        go_ret
        exact ⟨ret_bool HX.out.symm, HB2.out⟩
    · obtain rfl : j = l.length := by omega
      have HX := hide (tb_true (p := l.map DiskFile.name = m) (by
        refine List.ext_getElem (by rw [List.length_map]; exact HLEN.out) (fun i h1 h2 => ?_)
        rw [List.length_map] at h1
        rw [List.getElem_map]
        exact HA.out i h1 h2 h1))
      go_wp2
      go_ret
      exact ⟨ret_bool HX.out.symm, HB.out⟩
end Go.Proofs.Ytdingkbggjehoaa
