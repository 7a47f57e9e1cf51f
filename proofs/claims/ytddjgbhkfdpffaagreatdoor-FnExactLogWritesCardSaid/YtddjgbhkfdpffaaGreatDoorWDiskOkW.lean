/-
  Disks: the reference's DiskOk. Printed by gen/diskokw.py.
-/
import Derived.Deep.RegionHeld3
import Derived.Deep.CutRange
import Derived.Deep.DeepCutAuto
import Derived.Test.YtddjgbhkfdpffaaGreatDoorWDiskW2
set_option linter.unusedVariables false
set_option linter.unusedSimpArgs false
namespace Go.Proofs.YtddjgbhkfdpffaaGreatDoor
open Go.ChangeShapes Go.WideShapes Go.ChangeAt Go.RowKit

theorem FindIs.uniq {l : List DiskFile} {x : ByteArray} {a b : Int} (h : FindIs l x a) (k : FindIs l x b) : a = b := by
  rcases h with ⟨i, rfl, ⟨hi, ei⟩, hn⟩ | ⟨rfl, hn⟩
  · rcases k with ⟨j, rfl, ⟨hj, ej⟩, kn⟩ | ⟨rfl, kn⟩
    · by_cases h1 : i < j
      · exact absurd ei (kn i hi h1)
      · by_cases h2 : j < i
        · exact absurd ej (hn j hj h2)
        · omega
    · exact absurd ei (kn i hi)
  · rcases k with ⟨j, rfl, ⟨hj, ej⟩, kn⟩ | ⟨rfl, kn⟩
    · exact absurd ej (hn j hj)
    · rfl
theorem FindIs.first {d : Disk} {i : Nat} (h : i < d.files.length) (hf : d.firstAt i) : FindIs d.files d.files[i].name (i : Int) := .inl ⟨i, rfl, ⟨h, rfl⟩, fun j hj hij => hf j hj h hij⟩
theorem FindIs.ex (l : List DiskFile) (x : ByteArray) : ∃ z : Int, FindIs l x z := by
  by_cases h : ∃ k : Nat, ∃ h : k < l.length, l[k].name = x
  · have hx : ∃ k : Nat, (∃ h : k < l.length, l[k].name = x) ∧ ∀ j (h : j < l.length), j < k → l[j].name ≠ x := by
      obtain ⟨k, hk⟩ := h
      induction k using Nat.strongRecOn with
      | _ k ih =>
        by_cases hj : ∃ j : Nat, ∃ h : j < l.length, j < k ∧ l[j].name = x
        · obtain ⟨j, h1, h2, h3⟩ := hj
          exact ih j h2 ⟨h1, h3⟩
        · exact ⟨k, hk, fun j h1 h2 e => hj ⟨j, h1, h2, e⟩⟩
    obtain ⟨k, h1, h2⟩ := hx
    exact ⟨_, .inl ⟨k, rfl, h1, h2⟩⟩
  · exact ⟨_, .inr ⟨rfl, fun j hj e => h ⟨j, hj, e⟩⟩⟩
theorem FindIs.not_first {d : Disk} {i : Nat} (h : i < d.files.length) (hf : ¬ d.firstAt i) {z : Int} (hz : FindIs d.files d.files[i].name z) : z ≠ (i : Int) := by
  rintro rfl
  rcases hz with ⟨k, e, _, hk⟩ | ⟨e, _⟩
  · obtain rfl : i = k := by omega
    exact hf (fun j h1 h2 hij => hk j h1 hij)
  · omega
theorem FindIs.range {l : List DiskFile} {x : ByteArray} {z : Int} (h : FindIs l x z) : -1 ≤ z ∧ z < l.length + 1 := by
  rcases h with ⟨i, rfl, ⟨hi, ei⟩, hn⟩ | ⟨rfl, hn⟩ <;> omega
theorem l41Find_is {l : List DiskFile} {A : Option Addr} {n c : Nat} {fp : List Nat} {x : ByteArray} {w : World} {z : Int} (hz : FindIs l x z) (h : Ow w (.s 3 l.length (l.flatMap DiskFile.cells)) (.slice A n c) fp) :
    Calls Tryz.prog 75 #[.slice A n c, .string x] w fun e w' => e = .returned (.int .i64 z) ∧ w' = w :=
  (l41Find_any l A n c fp x w h).mono (fun e w' ⟨⟨z', he, hz'⟩, hw⟩ => ⟨by rw [he, hz'.uniq hz], hw.symm⟩)
theorem kcell2 {B : Nat} {W w' : World} {p : Addr} {v : Value} (h : W.cell? p = some v) (hb : Below B W w') (hl : p.block < B) : w'.cell? p = some v := (hb.cell hl).trans h
theorem l6In_is {n lo hi : Int} {w : World} {b : Bool} (hb : tb (lo ≤ n ∧ n ≤ hi) = b) :
    Calls Tryz.prog 56 #[.int .i64 n, .int .i64 lo, .int .i64 hi] w fun e w' => e = .returned (.bool b) ∧ w' = w :=
  (l6In_any n lo hi w).mono (fun e w' ⟨he, hw⟩ => ⟨by rw [he, hb], hw.symm⟩)
/-- what the reference asks of a file -/
def Disk.fileW (d : Disk) (i : Nat) (h : i < d.files.length) : Prop := d.files[i].fine ∧ (∃ h2 : i < (d.made d.moves.length).length, d.files[i].name = (d.made d.moves.length)[i]) ∧ d.firstAt i
theorem Disk.ok_W (d : Disk) : d.ok ↔ d.files.length ≤ 64 ∧ d.names.length ≤ 64 ∧ d.moves.length ≤ 128 ∧ (d.made d.moves.length).length = d.files.length ∧ (∀ i (h : i < d.files.length), d.fileW i h) ∧ d.goneOk d.afterW := by
  unfold Disk.ok Disk.filesOk Disk.fileW
  refine ⟨fun ⟨h1, h2, h3, h4, h5⟩ => ?_, fun ⟨h1, h2, h3, h4, h5, h6⟩ => ⟨h1, h3, fun i h => ⟨(h5 i h).1, (h5 i h).2.2⟩, ?_, h6⟩⟩
  · have hl : (d.made d.moves.length).length = d.files.length := by rw [← h4, List.length_map]
    refine ⟨h1, ?_, h2, hl, fun i h => ⟨(h3 i h).1, ⟨by omega, ?_⟩, (h3 i h).2⟩, h5⟩
    · have : d.names.length ≤ (d.made d.moves.length).length := by unfold Disk.made; rw [List.length_append]; omega
      omega
    · have e : (d.files.map DiskFile.name)[i]'(by rw [List.length_map]; exact h) = (d.made d.moves.length)[i]'(by omega) := by simp only [h4]
      rw [← e, List.getElem_map]
  · refine List.ext_getElem (by rw [List.length_map, h4]) (fun i h7 h8 => ?_)
    rw [List.length_map] at h7
    rw [List.getElem_map]
    obtain ⟨_, e⟩ := (h5 i h7).2.1
    exact e

set_option maxRecDepth 100000 in
set_option maxHeartbeats 4000000 in
theorem specDiskOk_any (d : Disk) (us0 : List Value) (fp : List Nat) (w : World) (h : OwC w d.cells us0 fp) (hf : Lt fp w.heap.size) (hbk : d.bulk ≤ 1048576) :
    Calls Tryz.prog 30 #[.agg us0.toArray] w fun e w' => e = .returned (.bool (tb d.ok)) ∧ Below w.heap.size w w' := by
  have HOC := hide h
  obtain ⟨A1, c1, A2, c2, A3, c3, f1, f2, f3, rfl, o1, o2, o3, rfl⟩ := h.oDisk
  clear h
  obtain ⟨_, hc1, hm1⟩ := o1.nlen
  obtain ⟨_, hc2, hm2⟩ := o2.nlen
  obtain ⟨_, hc3, hm3⟩ := o3.nlen
  unfold maxLen at hm1 hm2 hm3
  have hkb := d.bulk_eq
  unfold bulkStrs DiskFile.bulkL DiskMove.bulkL at hkb
  have RD : Row (w.alloc (.cells #[.slice A1 d.files.length c1, .slice A2 d.names.length c2, .slice A3 d.moves.length c3] 38)) w.heap.size 38 [.slice A1 d.files.length c1, .slice A2 d.names.length c2, .slice A3 d.moves.length c3] := Row.new w _ _
  obtain ⟨W1, hW1⟩ : ∃ W1, w.alloc (.cells #[.slice A1 d.files.length c1, .slice A2 d.names.length c2, .slice A3 d.moves.length c3] 38) = W1 := ⟨_, rfl⟩
  have hB1 : Below w.heap.size w W1 := hW1 ▸ (Below.refl _ _).alloc (Nat.le_refl _) _
  have hszW : w.heap.size + 1 ≤ W1.heap.size := by rw [← hW1, World.size_alloc]; exact Nat.le_refl _
  rw [hW1] at RD
  have HB1 := hide hB1
  have HRD := hide RD
  have O1 := hide o1
  have O3 := hide o3
  have d0 : W1.cell? ⟨w.heap.size, 0, none⟩ = some (.slice A1 d.files.length c1) := RD.cell 0
  have d1 : W1.cell? ⟨w.heap.size, 1, none⟩ = some (.slice A2 d.names.length c2) := RD.cell 1
  have d2 : W1.cell? ⟨w.heap.size, 2, none⟩ = some (.slice A3 d.moves.length c3) := RD.cell 2
  have ld := RD.lt
  have HIF := hide (d.ok_W)
  clear o1 o2 o3 hB1 RD
  have HNO : Hid (¬ (d.files.length ≤ 64 ∧ d.names.length ≤ 64 ∧ d.moves.length ≤ 128) → tb d.ok = false) := hide (fun h => tb_false (fun k => h ⟨(HIF.out.1 k).1, (HIF.out.1 k).2.1, (HIF.out.1 k).2.2.1⟩))
  by_cases h64 : d.files.length ≤ 64 ∧ d.names.length ≤ 64 ∧ d.moves.length ≤ 128
  rotate_left
  · have HF := hide (HNO.out h64)
    by_cases ha : d.files.length ≤ 64
    · have ha1 : decide ((64 : Int) < (d.files.length : Int)) = false := by simp; omega
      by_cases hb : d.names.length ≤ 64
      · have hb1 : decide ((64 : Int) < (d.names.length : Int)) = false := by simp; omega
        have hb2 : decide ((128 : Int) < (d.moves.length : Int)) = true := by simp; omega
        clear h64
        go_enter Tryz.func30, Tryz.ntmps30
        go_wp2
        all_goals (go_ret; exact ⟨ret_bool HF.out.symm, HB1.out⟩)
      · have hb1 : decide ((64 : Int) < (d.names.length : Int)) = true := by simp; omega
        clear h64
        go_enter Tryz.func30, Tryz.ntmps30
        go_wp2
        all_goals (go_ret; exact ⟨ret_bool HF.out.symm, HB1.out⟩)
    · have ha1 : decide ((64 : Int) < (d.files.length : Int)) = true := by simp; omega
      clear h64
      go_enter Tryz.func30, Tryz.ntmps30
      go_wp2
      all_goals (go_ret; exact ⟨ret_bool HF.out.symm, HB1.out⟩)
  obtain ⟨ha, hb, hc⟩ := h64
  have ha1 : decide ((64 : Int) < (d.files.length : Int)) = false := by simp; omega
  have hb1 : decide ((64 : Int) < (d.names.length : Int)) = false := by simp; omega
  have hc1' : decide ((128 : Int) < (d.moves.length : Int)) = false := by simp; omega
  have hml := made_len d d.moves.length
  have HMADE := hide (fun (W : World) (hb : Below w.heap.size w W) => l41Made_any d _ _ W (HOC.out.below hb hf) (hf.up hb) hbk)
  go_enter Tryz.func30, Tryz.ntmps30
  go_wp2_with fail
  refine (HMADE.out W1 HB1.out).mono ?_
  rintro e w2 ⟨v, us2, rfl, hs2, hb2⟩
  obtain ⟨A', c', rfl⟩ := hs2.form
  obtain ⟨fq, hq, hqn, _⟩ := hs2.toOw'
  have OQ := hide hq
  have HQN := hide hqn
  have HQL := hide hqn.lt
  have HB2 := hide (HB1.out.trans (hb2.mono (by omega)))
  have HRD2 := hide (HRD.out.below hb2 ld)
  obtain ⟨M, hM⟩ : ∃ M, d.made d.moves.length = M := ⟨_, rfl⟩
  rw [hM] at OQ hml
  rw [hM] at HIF
  have HM := hide hM
  have d0 : w2.cell? ⟨w.heap.size, 0, none⟩ = some (.slice A1 d.files.length c1) := HRD2.out.cell 0
  have ld2 : w.heap.size < w2.heap.size := HRD2.out.lt
  clear hs2 hb2 hq hqn d1 d2
  rw [hM]
  clear hM
  by_cases hlen : M.length = d.files.length
  rotate_left
  · have HF := hide (tb_false (fun k => hlen (HIF.out.1 k).2.2.2.1))
    have e1 : ((M.length : Int) == (d.files.length : Int)) = false := by simp; omega
    clear hlen
    go_wp2
    all_goals (go_ret; exact ⟨ret_bool HF.out.symm, HB2.out⟩)
  have HLEN := hide hlen
  have e1 : ((M.length : Int) == (d.files.length : Int)) = true := by simp; omega
  have e1' : ((M.length : Int) != (d.files.length : Int)) = false := by simp; omega
  clear hlen
  go_wp2
  have ld0 := HRD2.out.lt
  clear e1 e1' d0 ha1 hb1 hc1'
  go_loopw [4, 5] (fun i s wr => ∃ j : Nat, j ≤ d.files.length ∧ i = .int .i64 (j : Int) ∧ (∀ a (h : a < d.files.length), a < j → d.fileW a h) ∧ Below w2.heap.size w2 wr) (fun i _ _ => d.files.length - (intOf i).toNat)
  case atStart => exact ⟨0, Nat.zero_le _, rfl, fun a h1 h => absurd h (by omega), Below.refl _ _⟩
  case round =>
    obtain ⟨j, hj, rfl, ha', hb⟩ := hrel
    have HA := hide ha'
    have HB := hide hb
    have HBW := hide (HB2.out.trans (hb.mono (by have := HB2.out.size; omega)))
    have HRW := hide (HRD2.out.below hb ld2)
    have d0 : wr.cell? ⟨w.heap.size, 0, none⟩ = some (.slice A1 d.files.length c1) := HRW.out.cell 0
    have d2 : wr.cell? ⟨w.heap.size, 2, none⟩ = some (.slice A3 d.moves.length c3) := HRW.out.cell 2
    have ldw := HRW.out.lt
    clear ha' hb
    by_cases hlt : j < d.files.length
    · obtain ⟨g, off, ws, fi, rfl, hgm, hfi, hwl, hcs, hov⟩ := (O1.out.below HBW.out hf.left).elem DiskFile.cells_len hlt
      obtain ⟨rfl, hs0, hs1, hw2, rfl⟩ := hov.oDiskFile
      have hgl := hf.left _ hgm
      have hgw := Nat.lt_of_lt_of_le hgl HBW.out.size
      have p0 := hcs 0 _ rfl
      have p1 := hcs 1 _ rfl
      have p2 := hcs 2 _ rfl
      simp only [Nat.add_zero] at p0
      have hjM : j < M.length := by have := HLEN.out; omega
      have OQr := hide (OQ.out.below HB.out HQL.out)
      obtain ⟨gm, offm, rfl, hgmm, hcellm, hsm⟩ := strs_at OQr.out hjM
      have hgmw := Nat.lt_of_lt_of_le (HQL.out _ hgmm) HB.out.size
      obtain ⟨z, hz⟩ := FindIs.ex d.files d.files[j].name
      have HZ := hide hz
      have HFA := hide (fun W (hb : Below w.heap.size w W) => O1.out.below hb hf.left)
      have HNX : Hid (¬ d.fileW j hlt → tb d.ok = false) := hide (fun h => tb_false (fun k => h ((HIF.out.1 k).2.2.2.2.1 j hlt)))
      have HWF : Hid (d.fileW j hlt ↔ d.files[j].fine ∧ d.files[j].name = M[j] ∧ z = (j : Int)) := hide (by
        have hMM := HM.out
        subst hMM
        unfold Disk.fileW
        refine ⟨fun ⟨h1, ⟨_, h2⟩, h3⟩ => ⟨h1, h2, HZ.out.uniq (FindIs.first hlt h3)⟩, fun ⟨h1, h2, h3⟩ => ⟨h1, ⟨hjM, h2⟩, Classical.byContradiction (fun h => FindIs.not_first hlt h HZ.out h3)⟩⟩)
      have HST := hide (fun (h : d.fileW j hlt) (a : Nat) (h1 : a < d.files.length) (h2 : a < j + 1) => show d.fileW a h1 from by
        by_cases e : a < j
        · exact HA.out a h1 e
        · obtain rfl : a = j := by omega
          exact h)
      have HAB := hide ((Below.refl w2.heap.size wr).alloc HB.out.size (.cells #[.string d.files[j].name, .string d.files[j].data, .int .i64 d.files[j].kept] 116))
      clear hcs hov hz
      unfold DiskFile.fine at HWF
      generalize d.files[j] = y at *
      generalize M[j] = x at *

      by_cases t1 : NameOk y.name
      rotate_left
      · have HN := hide t1
        clear t1
        have HF := hide (HNX.out (fun h => HN.out (HWF.out.1 h).1.1))
        clear HNX HWF HST
        go_wp2_with fail
        go_quiet ((first | (go_at_call 75; exact Calls.quiet_of_same (l41Find_is HZ.out (HFA.out _ (below_drewN (HBW.out.alloc HBW.out.size _) _)))) | (go_at_call 56; exact Calls.quiet_of_same (l6In_is HIN)) | (go_at_call 74; exact Calls.quiet_of_same (l6NameOk_no _ _ hs0 HN.out))))
        go_wp2
        go_ret
        exact ⟨ret_bool HF.out.symm, HBW.out.trans (below_drewN ((Below.refl _ _).alloc (Nat.le_refl _) _) _ |>.mono HBW.out.size)⟩
      have HN := hide t1
      clear t1
      by_cases t2 : y.name = x
      rotate_left
      · have e2 := txt_no t2
        have HT2 := hide t2
        clear t2
        have HF := hide (HNX.out (fun h => HT2.out (HWF.out.1 h).2.1))
        clear HNX HWF HST
        go_wp2_with fail
        go_quiet ((first | (go_at_call 75; exact Calls.quiet_of_same (l41Find_is HZ.out (HFA.out _ (below_drewN (HBW.out.alloc HBW.out.size _) _)))) | (go_at_call 56; exact Calls.quiet_of_same (l6In_is HIN)) | (go_at_call 74; exact Calls.quiet_of_same (l6NameOk_yes _ _ hs0 HN.out))))
        go_wp2
        go_ret
        exact ⟨ret_bool HF.out.symm, HBW.out.trans (below_drewN ((Below.refl _ _).alloc (Nat.le_refl _) _) _ |>.mono HBW.out.size)⟩
      have e2 := txt_yes t2
      have HT2 := hide t2
      clear t2
      by_cases t3 : y.data.size ≤ 20000
      rotate_left
      · have e3 : decide ((20000 : Int) < (y.data.size : Int)) = true := by simp; omega
        have HT3 := hide t3
        clear t3
        have HF := hide (HNX.out (fun h => HT3.out (HWF.out.1 h).1.2.1))
        clear HNX HWF HST
        go_wp2_with fail
        go_quiet ((first | (go_at_call 75; exact Calls.quiet_of_same (l41Find_is HZ.out (HFA.out _ (below_drewN (HBW.out.alloc HBW.out.size _) _)))) | (go_at_call 56; exact Calls.quiet_of_same (l6In_is HIN)) | (go_at_call 74; exact Calls.quiet_of_same (l6NameOk_yes _ _ hs0 HN.out))))
        go_wp2
        go_ret
        exact ⟨ret_bool HF.out.symm, HBW.out.trans (below_drewN ((Below.refl _ _).alloc (Nat.le_refl _) _) _ |>.mono HBW.out.size)⟩
      have e3 : decide ((20000 : Int) < (y.data.size : Int)) = false := by simp; omega
      have HT3 := hide t3
      clear t3
      by_cases t4 : 0 ≤ y.kept ∧ y.kept ≤ (y.data.size : Int)
      rotate_left
      · have HIN := tb_false t4
        have HT4 := hide t4
        clear t4
        have HF := hide (HNX.out (fun h => HT4.out (HWF.out.1 h).1.2.2))
        clear HNX HWF HST
        go_wp2_with fail
        go_quiet ((first | (go_at_call 75; exact Calls.quiet_of_same (l41Find_is HZ.out (HFA.out _ (below_drewN (HBW.out.alloc HBW.out.size _) _)))) | (go_at_call 56; exact Calls.quiet_of_same (l6In_is HIN)) | (go_at_call 74; exact Calls.quiet_of_same (l6NameOk_yes _ _ hs0 HN.out))))
        go_wp2
        go_ret
        exact ⟨ret_bool HF.out.symm, HBW.out.trans (below_drewN ((Below.refl _ _).alloc (Nat.le_refl _) _) _ |>.mono HBW.out.size)⟩
      have HIN := tb_true t4
      have HT4 := hide t4
      clear t4
      by_cases t5 : z = (j : Int)
      rotate_left
      · have e5 : (z == (j : Int)) = false := by simpa using t5
        have HT5 := hide t5
        clear t5
        have HF := hide (HNX.out (fun h => HT5.out (HWF.out.1 h).2.2))
        clear HNX HWF HST
        go_wp2_with fail
        go_quiet ((first | (go_at_call 75; exact Calls.quiet_of_same (l41Find_is HZ.out (HFA.out _ (below_drewN (HBW.out.alloc HBW.out.size _) _)))) | (go_at_call 56; exact Calls.quiet_of_same (l6In_is HIN)) | (go_at_call 74; exact Calls.quiet_of_same (l6NameOk_yes _ _ hs0 HN.out))))
        go_wp2
        go_ret
        exact ⟨ret_bool HF.out.symm, HBW.out.trans (below_drewN ((Below.refl _ _).alloc (Nat.le_refl _) _) _ |>.mono HBW.out.size)⟩
      have e5 : (z == (j : Int)) = true := by simpa using t5
      have HT5 := hide (HST.out (HWF.out.2 ⟨⟨HN.out, HT3.out, HT4.out.1, HT4.out.2⟩, HT2.out, t5⟩))
      clear t5 HNX HWF HST
      go_wp2_with fail
      go_quiet ((first | (go_at_call 75; exact Calls.quiet_of_same (l41Find_is HZ.out (HFA.out _ (below_drewN (HBW.out.alloc HBW.out.size _) _)))) | (go_at_call 56; exact Calls.quiet_of_same (l6In_is HIN)) | (go_at_call 74; exact Calls.quiet_of_same (l6NameOk_yes _ _ hs0 HN.out))))
      go_wp2
      go_roundw
      case rel => exact ⟨j + 1, by omega, by go_num, HT5.out, HB.out.trans (below_drewN HAB.out _)⟩
      case measure => simp [intOf]; omega
    · obtain rfl : j = d.files.length := by omega
      have HFILES := hide (fun a (h : a < d.files.length) => HA.out a h h)
      clear HA OQ HQN HQL HMADE
      go_wp2
      clear d0 d2
      go_loopw [6] (fun i wx => ∃ j : Nat, j ≤ d.moves.length ∧ i = .int .i64 (j : Int) ∧ (∀ a (h : a < d.moves.length), a < j → d.moves[a].gone = true → d.moves[a].name ∈ d.afterW a) ∧ Below w.heap.size w wx ∧ Row wx w.heap.size 38 [.slice A1 d.files.length c1, .slice A2 d.names.length c2, .slice A3 d.moves.length c3]) (fun i _ => d.moves.length - (intOf i).toNat)
      case atStart => exact ⟨0, Nat.zero_le _, rfl, fun a h1 h => absurd h (by omega), HBW.out, HRW.out⟩
      case round =>
        obtain ⟨j, hj, rfl, ha', hbx, hrx⟩ := hrel
        have HA := hide ha'
        have HBX := hide hbx
        have HRX := hide hrx
        have d0 : wr.cell? ⟨w.heap.size, 0, none⟩ = some (.slice A1 d.files.length c1) := HRX.out.cell 0
        have d1 : wr.cell? ⟨w.heap.size, 1, none⟩ = some (.slice A2 d.names.length c2) := HRX.out.cell 1
        have d2 : wr.cell? ⟨w.heap.size, 2, none⟩ = some (.slice A3 d.moves.length c3) := HRX.out.cell 2
        have ldx := HRX.out.lt
        clear ha' hbx hrx
        by_cases hlt : j < d.moves.length
        · obtain ⟨g, off, ws, fi, rfl, hgm, hfi, hwl, hcs, hov⟩ := (O3.out.below HBX.out hf.right.right).elem DiskMove.cells_len hlt
          have hgl := hf.right.right _ hgm
          have hgw := Nat.lt_of_lt_of_le hgl HBX.out.size
          obtain ⟨rfl, hs1, rfl⟩ := hov.oDiskMove
          have p0 := hcs 0 _ rfl
          have p1 := hcs 1 _ rfl
          simp only [Nat.add_zero] at p0
          clear hcs hov
          have HST := hide (fun (h : d.moves[j].gone = true → d.moves[j].name ∈ d.afterW j) (a : Nat) (h1 : a < d.moves.length) (h2 : a < j + 1) => show d.moves[a].gone = true → d.moves[a].name ∈ d.afterW a from by
            by_cases e : a < j
            · exact HA.out a h1 e
            · obtain rfl : a = j := by omega
              exact h)
          have HNX : Hid (d.moves[j].gone = true → ¬ d.moves[j].name ∈ d.afterW j → tb d.ok = false) := hide (fun h1 h2 => tb_false (fun k => h2 ((HIF.out.1 k).2.2.2.2.2 j hlt h1)))
          by_cases hg : d.moves[j].gone = true
          · have HSG := hide (fun h => HST.out (fun _ => h))
            have HNG := hide (HNX.out hg)
            have HAF := hide (fun (W : World) (hb : Below w.heap.size w W) => l41After_any d _ _ j W (HOC.out.below hb hf) (hf.up hb) hbk (Nat.le_of_lt hlt))
            clear HST HNX
            generalize d.moves[j] = y at *
            rw [hg] at p0
            clear hg
            generalize d.afterW j = L at *
            go_upto_region 15 with fail
            go_region_held3 (fun w' => w'.cell? ⟨w.heap.size, 0, none⟩ = some (.slice A1 d.files.length c1) ∧ w'.cell? ⟨w.heap.size, 1, none⟩ = some (.slice A2 d.names.length c2) ∧ w'.cell? ⟨w.heap.size, 2, none⟩ = some (.slice (some ⟨g, off, none⟩) d.moves.length c3) ∧ w'.cell? ⟨g, off + j * 2, none⟩ = some (.bool true) ∧ w'.cell? ⟨g, off + j * 2 + 1, none⟩ = some (.string y.name))
              (first | exact ⟨kcell2 d0 hbz ldx, kcell2 d1 hbz ldx, kcell2 d2 hbz ldx, kcell2 p0 hbz hgw, kcell2 p1 hbz hgw⟩ | go_keep)
              (first
                | (go_at_call 76; refine (l6Has_any L _ _ _ _ _ _ hof).mono ?_; rintro e w3 ⟨rfl, rfl⟩)
                | (go_at_call 77; refine (HAF.out _ (below_drewN HBX.out _)).mono ?_; rintro e w3 ⟨v3, us3, rfl, hs3, hb3⟩; obtain ⟨A3', c3', rfl⟩ := hs3.form; obtain ⟨fo, hof, _, _⟩ := hs3.toOw'; have hbz : Below wr.heap.size wr w3 := (below_drewN (Below.refl _ wr) _).trans hb3))
            all_goals
              have HBZ := hide (HBX.out.trans (hbz.mono HBX.out.size))
              have HRZ := hide (HRX.out.below hbz ldx)
              clear hs3 hb3 hof hbz
              by_cases hin : y.name ∈ L
              · have ht := tb_true hin
                have HS := hide (HSG.out hin)
                clear hin HSG HNG
                rw [ht]
                go_wp2
                go_roundw
                case rel => exact ⟨j + 1, by omega, by go_num, HS.out, HBZ.out, HRZ.out⟩
                case measure => simp [intOf]; omega
              · have ht := tb_false hin
                have HS := hide (HNG.out hin)
                clear hin HSG HNG
                rw [ht]
                go_wp2
                go_ret
                exact ⟨ret_bool HS.out.symm, HBZ.out⟩
          · have hg' : d.moves[j].gone = false := by simpa using hg
            have HS := hide (HST.out (fun h => absurd h hg))
            clear HST HNX hg
            generalize d.moves[j] = y at *
            rw [hg'] at p0
            clear hg'
            go_upto_region 15 with fail
            go_quiet (fail)
            go_wp2
            go_roundw
            case rel => exact ⟨j + 1, by omega, by go_num, HS.out, below_drewN HBX.out _, HRX.out.drewN _⟩
            case measure => simp [intOf]; omega
        · obtain rfl : j = d.moves.length := by omega
          have HT := hide (tb_true (HIF.out.2 ⟨ha, hb, hc, HLEN.out, HFILES.out, fun a h => HA.out a h h⟩))
          go_wp2
          go_ret
          exact ⟨ret_bool HT.out.symm, HBX.out⟩
end Go.Proofs.YtddjgbhkfdpffaaGreatDoor
