/-
  Disks: the reference's l6Has, l41Find, l41Made.
-/
import Derived.Test.YtdingkbggjehoaaDiskW
set_option linter.unusedVariables false
set_option linter.unusedSimpArgs false
namespace Go.Proofs.Ytdingkbggjehoaa
open Go.ChangeShapes Go.WideShapes Go.ChangeAt Go.RowKit

/-- the place of the first file with a name, or -1 -/
def FindIs (l : List DiskFile) (x : ByteArray) (z : Int) : Prop :=
  (∃ k : Nat, z = (k : Int) ∧ (∃ h : k < l.length, l[k].name = x) ∧ ∀ j (h : j < l.length), j < k → l[j].name ≠ x) ∨ (z = -1 ∧ ∀ j (h : j < l.length), l[j].name ≠ x)
set_option maxRecDepth 100000 in
theorem l6Has_any (l : List ByteArray) (A : Option Addr) (n c : Nat) (fp : List Nat) (x : ByteArray) (w : World) (h : Ow w (.s 1 l.length (l.flatMap strC)) (.slice A n c) fp) :
    Calls Try.prog 121 #[.slice A n c, .string x] w fun e w' => e = .returned (.bool (tb (x ∈ l))) ∧ w = w' := by
  obtain ⟨rfl, hc, hm⟩ := h.nlen
  unfold maxLen at hm
  have HO := hide h
  clear h
  go_enter Try.func121, Try.ntmps121
  go_wp2
  go_loopw [5] (fun i wr => (∃ j : Nat, j ≤ l.length ∧ i = .int .i64 (j : Int) ∧ ∀ a (h : a < l.length), a < j → l[a] ≠ x) ∧ w = wr) (fun i _ => l.length - (intOf i).toNat)
  case atStart => exact ⟨⟨0, Nat.zero_le _, rfl, fun a h1 h => absurd h (by omega)⟩, rfl⟩
  case round =>
    obtain ⟨⟨j, hj, rfl, ha⟩, rfl⟩ := hrel
    have HA := hide ha
    clear ha
    by_cases hlt : j < l.length
    · obtain ⟨g, off, rfl, hgm, hcell, hs1⟩ := strs_at HO.out hlt
      by_cases he : l[j] = x
      · have e1 := txt_yes he
        have HT := hide (tb_true (show x ∈ l from he ▸ List.getElem_mem hlt))
        clear he
        generalize l[j] = y at *
        go_wp2
        go_ret
        exact ⟨ret_bool HT.out.symm, rfl⟩
      · have e1 := txt_no he
        have HN := hide (fun (a : Nat) (h : a < l.length) (hl : a < j + 1) => show l[a] ≠ x from by
          by_cases e : a < j
          · exact HA.out a h e
          · obtain rfl : a = j := by omega
            exact he)
        clear he
        generalize l[j] = y at *
        go_wp2
        go_roundw
        case rel => first | exact ⟨⟨j + 1, by omega, by go_num, HN.out⟩, trivial⟩ | exact ⟨⟨j + 1, by omega, by go_num, HN.out⟩, rfl⟩
        case measure => simp [intOf]; omega
    · obtain rfl : j = l.length := by omega
      have HT := hide (tb_false (p := x ∈ l) (fun hx => by
        obtain ⟨i, hi, e⟩ := List.getElem_of_mem hx
        exact HA.out i hi hi e))
      go_wp2
      go_ret
      exact ⟨ret_bool HT.out.symm, rfl⟩
set_option maxRecDepth 100000 in
theorem l41Find_any (l : List DiskFile) (A : Option Addr) (n c : Nat) (fp : List Nat) (x : ByteArray) (w : World) (h : Ow w (.s 3 l.length (l.flatMap DiskFile.cells)) (.slice A n c) fp) :
    Calls Try.prog 120 #[.slice A n c, .string x] w fun e w' => (∃ z : Int, e = .returned (.int .i64 z) ∧ FindIs l x z) ∧ w = w' := by
  obtain ⟨rfl, hc, hm⟩ := h.nlen
  unfold maxLen at hm
  have HO := hide h
  clear h
  go_enter Try.func120, Try.ntmps120
  go_wp2
  go_loopw [5] (fun i wr => (∃ j : Nat, j ≤ l.length ∧ i = .int .i64 (j : Int) ∧ ∀ a (h : a < l.length), a < j → l[a].name ≠ x) ∧ w = wr) (fun i _ => l.length - (intOf i).toNat)
  case atStart => exact ⟨⟨0, Nat.zero_le _, rfl, fun a h1 h => absurd h (by omega)⟩, rfl⟩
  case round =>
    obtain ⟨⟨j, hj, rfl, ha⟩, rfl⟩ := hrel
    have HA := hide ha
    clear ha
    by_cases hlt : j < l.length
    · obtain ⟨g, off, ws, fi, rfl, hgm, hfi, hwl, hcs, hov⟩ := HO.out.elem DiskFile.cells_len hlt
      obtain ⟨rfl, hs0, hs1, hw2, rfl⟩ := hov.oDiskFile
      have p0 := hcs 0 _ rfl
      simp only [Nat.add_zero] at p0
      clear hcs hov
      by_cases he : l[j].name = x
      · have e1 := txt_yes he
        have HT := hide (show FindIs l x (j : Int) from .inl ⟨j, rfl, ⟨hlt, he⟩, HA.out⟩)
        clear he
        generalize l[j] = y at *
        go_wp2
        go_ret
        exact ⟨⟨_, rfl, HT.out⟩, rfl⟩
      · have e1 := txt_no he
        have HN := hide (fun (a : Nat) (h : a < l.length) (hl : a < j + 1) => show l[a].name ≠ x from by
          by_cases e : a < j
          · exact HA.out a h e
          · obtain rfl : a = j := by omega
            exact he)
        clear he
        generalize l[j] = y at *
        go_wp2
        go_roundw
        case rel => first | exact ⟨⟨j + 1, by omega, by go_num, HN.out⟩, trivial⟩ | exact ⟨⟨j + 1, by omega, by go_num, HN.out⟩, rfl⟩
        case measure => simp [intOf]; omega
    · obtain rfl : j = l.length := by omega
      have HT := hide (show FindIs l x (-1) from .inr ⟨rfl, fun i hi => HA.out i hi hi⟩)
      go_wp2
      go_ret
      exact ⟨⟨_, rfl, HT.out⟩, rfl⟩
theorem made_len (d : Disk) (i : Nat) : (d.made i).length ≤ d.names.length + i := by
  induction i with
  | zero => rw [d.made_zero]; omega
  | succ i ih =>
    by_cases h : i < d.moves.length
    · rw [d.made_succ i h, List.length_append]
      unfold DiskMove.makes
      split <;> simp <;> omega
    · have e : d.made (i + 1) = d.made i := by
        unfold Disk.made
        rw [List.take_of_length_le (by omega), List.take_of_length_le (by omega)]
      rw [e]; omega
set_option maxRecDepth 100000 in
set_option maxHeartbeats 1000000 in
theorem l41Made_any (d : Disk) (us0 : List Value) (fp : List Nat) (w : World) (h : OwC w d.cells us0 fp) (hf : Lt fp w.heap.size) (hbk : d.bulk ≤ 1048576) :
    Calls Try.prog 118 #[.agg us0.toArray] w fun e w' => ∃ v us, e = .returned v ∧ OwS w' w.heap.size 9 1 strC v (d.made d.moves.length) us [] ∧ Below w.heap.size w w' := by
  obtain ⟨A1, c1, A2, c2, A3, c3, f1, f2, f3, rfl, o1, o2, o3, rfl⟩ := h.oDisk
  clear h
  obtain ⟨_, hc2, hm2⟩ := o2.nlen
  obtain ⟨_, hc3, hm3⟩ := o3.nlen
  unfold maxLen at hm2 hm3
  have hkb := d.bulk_eq
  unfold bulkStrs DiskFile.bulkL DiskMove.bulkL at hkb
  have RD : Row (w.alloc (.cells #[.slice A1 d.files.length c1, .slice A2 d.names.length c2, .slice A3 d.moves.length c3] 83)) w.heap.size 83 [.slice A1 d.files.length c1, .slice A2 d.names.length c2, .slice A3 d.moves.length c3] := Row.new w _ _
  obtain ⟨W1, hW1⟩ : ∃ W1, w.alloc (.cells #[.slice A1 d.files.length c1, .slice A2 d.names.length c2, .slice A3 d.moves.length c3] 83) = W1 := ⟨_, rfl⟩
  have hB1 : Below w.heap.size w W1 := hW1 ▸ (Below.refl _ _).alloc (Nat.le_refl _) _
  have hszW : w.heap.size + 1 ≤ W1.heap.size := by rw [← hW1, World.size_alloc]; exact Nat.le_refl _
  rw [hW1] at RD
  have HB1 := hide hB1
  have HRD := hide RD
  have O2 := hide (o2.below hB1 hf.right.left)
  have O3 := hide o3
  obtain ⟨ia, hia, ha0, ha1, ha2⟩ := info_parts info_string
  have HIa := hide hia
  obtain ⟨us, hsu, hsa⟩ := (O2.out.alloc (hf.right.left.mono hB1.size) (.cells #[] 9)).srcStrs
  have HSU := hide hsu
  have HSA := hide hsa
  have d1 : W1.cell? ⟨w.heap.size, 1, none⟩ = some (.slice A2 d.names.length c2) := RD.cell 1
  have ld := RD.lt
  clear o1 o2 o3 hia hB1 RD hsu hsa
  go_enter Try.func118, Try.ntmps118
  go_wp2_with (first | (at_builtin; refine wpl_app rfl _ _ 22 rfl ia _ 16 Try.underlying22 HIa.out ha0 ha1 ha2 rfl (by decide) strC_len rfl (OwS.lit0 W1 (w.heap.size + 1) hszW 9 1 strC) d.names HSU.out (by exact New.nil _ _) (fun g _ hg => by cases hg) _ _ _ rfl rfl HSA.out (by simp only [List.length_nil]; omega) (by decide) (by rw [World.size_alloc]; omega) ?_; intro A' n' c' w5 hn5 hown5 hgb5; have HG5 := hide hgb5; have HN5 := hide hown5; clear hown5 hgb5 hn5))
  have HRD5 := hide (HG5.out.row (HRD.out.alloc _) (fun e => by have e' : W1.heap.size = w.heap.size := (by injection e); omega))
  have HB5 := hide (HB1.out.trans (((Below.refl w.heap.size W1).alloc (by omega) _).trans (HG5.out.toBelow (by rw [World.size_alloc]; omega) (fun g e => by have e' : W1.heap.size = g := (by injection e); omega))))
  have HS0 := hide (show OwS w5 (w.heap.size + 1) 9 1 strC (.slice A' n' c') (d.made 0) ([] ++ us) [] from by rw [d.made_zero]; exact HN5.out)
  clear d1 ld HSU HSA HG5 HN5 HB1 HRD
  go_loopw [3, 4] (fun s i wr => ∃ (j : Nat) (A' : Option Addr) (n' c' : Nat) (us : List Value), j ≤ d.moves.length ∧ s = .slice A' n' c' ∧ i = .int .i64 (j : Int) ∧ OwS wr (w.heap.size + 1) 9 1 strC (.slice A' n' c') (d.made j) us [] ∧ Below w.heap.size w wr ∧ Row wr w.heap.size 83 [.slice A1 d.files.length c1, .slice A2 d.names.length c2, .slice A3 d.moves.length c3]) (fun _ i _ => d.moves.length - (intOf i).toNat)
  case atStart => exact ⟨0, _, _, _, _, Nat.zero_le _, rfl, rfl, HS0.out, HB5.out, HRD5.out⟩
  case round =>
    clear HS0 HB5 HRD5
    obtain ⟨j, A', n', c', us, hj, rfl, rfl, hs, hb, hrd⟩ := hrel
    have HB := hide hb
    have HRD := hide hrd
    have hsz := hb.size
    have hsz1 : w.heap.size + 1 ≤ wr.heap.size := hrd.lt
    have ld := hrd.lt
    have d2 : wr.cell? ⟨w.heap.size, 2, none⟩ = some (.slice A3 d.moves.length c3) := hrd.cell 2
    have hal := made_len d j
    by_cases hlt : j < d.moves.length
    · have hlt2 : j < d.moves.length := by omega
      obtain ⟨g, off, ws, fi, rfl, hgm, hfi, hwl, hcs, hov⟩ := (O3.out.below HB.out hf.right.right).elem DiskMove.cells_len hlt2
      have HSN := hide (d.made_succ j hlt2)
      have hgl := hf.right.right _ hgm
      have hgw := Nat.lt_of_lt_of_le hgl hsz
      obtain ⟨rfl, hs1, rfl⟩ := hov.oDiskMove
      have p0 := hcs 0 _ rfl
      have p1 := hcs 1 _ rfl
      simp only [Nat.add_zero] at p0
      clear hcs hov hb hrd
      by_cases hg : d.moves[j].gone = true
      · have HE := hide (show d.made (j + 1) = d.made j from by rw [HSN.out]; unfold DiskMove.makes; rw [if_pos hg, List.append_nil])
        have HS := hide hs
        clear HSN hs
        generalize d.moves[j] = y at *
        rw [hg] at p0
        clear hg
        go_wp2
        go_roundw
        case rel => exact ⟨j + 1, _, _, _, us, by omega, rfl, by go_num, by rw [HE.out]; exact HS.out, HB.out, HRD.out⟩
        case measure => simp [intOf]; omega
      · have hg' : d.moves[j].gone = false := by simpa using hg
        have HE := hide (show d.made (j + 1) = d.made j ++ [d.moves[j].name] from by rw [HSN.out]; unfold DiskMove.makes; rw [if_neg hg])
        have HS := hide (hs.alloc (.cells #[.string d.moves[j].name] 9))
        have HDS := hide (fun W => str_src d.moves[j].name hs1 W)
        clear HSN hs hg
        generalize d.moves[j] = y at *
        rw [hg'] at p0
        clear hg'
        generalize d.made j = L at *
        go_wp2_with (first | (at_builtin; refine wpl_app rfl _ _ 22 rfl ia _ 16 Try.underlying22 HIa.out ha0 ha1 ha2 rfl (by decide) strC_len rfl HS.out [y.name] (HDS.out _) (by exact New.nil _ _) (fun g _ hg => by cases hg) _ 1 1 rfl rfl (SrcAt.new wr _ _ _ _) (by omega) (by decide) (by rw [World.size_alloc]; omega) ?_; intro A5 n5 c5 w5 hn5 hown5 hgb5; have HG5 := hide hgb5; have HN5 := hide hown5; clear hown5 hgb5 hn5))
        go_roundw
        case rel => exact ⟨j + 1, A5, n5, c5, _, by omega, rfl, by go_num, by rw [HE.out]; exact HN5.out, HB.out.trans (((Below.refl _ wr).alloc hsz _).trans (HG5.out.toBelow (by rw [World.size_alloc]; omega) (fun g e => Nat.le_of_succ_le (HS.out.from e)))), HG5.out.row (HRD.out.alloc _) (HS.out.low (Nat.lt_succ_self _))⟩
        case measure => simp [intOf]; omega
    · obtain rfl : j = d.moves.length := by omega
      have HS := hide hs
      clear hs hb
      go_wp2
      go_ret
      exact ⟨_, us, rfl, HS.out.lower (Nat.le_succ _), HB.out⟩
end Go.Proofs.Ytdingkbggjehoaa
