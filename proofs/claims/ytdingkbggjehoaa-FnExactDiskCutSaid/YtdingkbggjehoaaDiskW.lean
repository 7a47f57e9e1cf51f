/-
  Disks: the reference's lists of names (l41Without, l41After, l41Made), l6Has, l41Find.
-/
import Derived.Test.YtdingkbggjehoaaDiskM
import Derived.Test.YtdingkbggjehoaaTxt
import Derived.Test.YtdingkbggjehoaaTwo
set_option linter.unusedVariables false
set_option linter.unusedSimpArgs false
namespace Go.Proofs.Ytdingkbggjehoaa
open Go.ChangeShapes Go.WideShapes Go.ChangeAt Go.RowKit

theorem OwS.lit0 {α : Type} (w : World) (B : Nat) (hB : B ≤ w.heap.size) (e : TypeId) (k : Nat) (f : α → List D) : OwS (w.alloc (.cells #[] e)) B e k f (.slice (some ⟨w.heap.size, 0, none⟩) 0 0) [] [] [] :=
  ⟨⟨by simp, .inr ⟨_, 0, #[], rfl, hB, heap_alloc_new w _, Nat.le_refl _, by decide, by simp, by simp⟩⟩, by simp [OwC], New.nil _ _, fun g _ => by simp⟩
theorem OwS.lower {α : Type} {w : World} {B B' : Nat} {e : TypeId} {k : Nat} {f : α → List D} {v : Value} {l : List α} {us : List Value} {fi : List Nat} (h : OwS w B e k f v l us fi) (hB : B' ≤ B) : OwS w B' e k f v l us fi := by
  refine ⟨⟨h.own.1, ?_⟩, h.cells, h.new.mono hB, h.out⟩
  rcases h.own.2 with hn | ⟨g, cap, cur, hv, hb, rest⟩
  · exact .inl hn
  · exact .inr ⟨g, cap, cur, hv, Nat.le_trans hB hb, rest⟩
theorem str_src (x : ByteArray) (hx : x.size ≤ maxLen) (w : World) : OwC w ([x].flatMap strC) [.string x] [] := ⟨[], [], ⟨rfl, hx, rfl⟩, rfl, rfl⟩
theorem without_snoc (x : ByteArray) (l : List ByteArray) (j : Nat) (h : j < l.length) : without x (l.take (j + 1)) = without x (l.take j) ++ (if tb (l[j] = x) = true then [] else [l[j]]) := by
  unfold without
  rw [List.take_succ_eq_append_getElem h, List.filter_append]
  by_cases e : l[j] = x
  · rw [if_pos (tb_true e), List.filter_cons_of_neg (by simp [tb_false, e])]
    rfl
  · rw [if_neg (by rw [tb_false e]; simp), List.filter_cons_of_pos (by simp [tb_true e])]
    rfl
theorem without_len (x : ByteArray) (l : List ByteArray) (j : Nat) : (without x (l.take j)).length ≤ j := by
  unfold without
  exact Nat.le_trans (List.length_filter_le _ _) (by rw [List.length_take]; omega)
theorem afterW_len (d : Disk) (i : Nat) : (d.afterW i).length ≤ d.names.length + i := by
  induction i with
  | zero => rw [d.afterW_zero]; omega
  | succ i ih =>
    by_cases h : i < d.moves.length
    · rw [d.afterW_succ i h]
      unfold DiskMove.stepW
      split
      · exact Nat.le_trans (List.length_filter_le _ _) (by omega)
      · rw [List.length_append]; simp; omega
    · have e : d.afterW (i + 1) = d.afterW i := by
        unfold Disk.afterW
        rw [List.take_of_length_le (by omega), List.take_of_length_le (by omega)]
      rw [e]; omega

set_option maxRecDepth 100000 in
theorem l41Without_any (l : List ByteArray) (A : Option Addr) (n c : Nat) (fp : List Nat) (x : ByteArray) (w : World) (h : Ow w (.s 1 l.length (l.flatMap strC)) (.slice A n c) fp) (hf : Lt fp w.heap.size) (hx : x.size ≤ maxLen) (hl : l.length ≤ 4194304) :
    Calls Try.prog 171 #[.slice A n c, .string x] w fun e w' => ∃ v us, e = .returned v ∧ OwS w' w.heap.size 9 1 strC v (without x l) us [] ∧ Below w.heap.size w w' := by
  obtain ⟨rfl, hc, hm⟩ := h.nlen
  unfold maxLen at hm
  have HO := hide h
  clear h
  obtain ⟨ia, hia, ha0, ha1, ha2⟩ := info_parts info_string
  have HIa := hide hia
  clear hia
  have HOW0 := hide (OwS.lit0 w w.heap.size (Nat.le_refl _) 9 1 strC)
  go_enter Try.func171, Try.ntmps171
  go_wp2
  go_loopw [5, 6] (fun s i wr => ∃ (j : Nat) (A' : Option Addr) (n' c' : Nat) (us : List Value), j ≤ l.length ∧ s = .slice A' n' c' ∧ i = .int .i64 (j : Int) ∧ OwS wr w.heap.size 9 1 strC (.slice A' n' c') (without x (l.take j)) us [] ∧ Below w.heap.size w wr) (fun _ i _ => l.length - (intOf i).toNat)
  case atStart => exact ⟨0, _, _, _, [], Nat.zero_le _, rfl, rfl, HOW0.out, (Below.refl _ _).alloc (Nat.le_refl _) _⟩
  case round =>
    obtain ⟨j, A', n', c', us, hj, rfl, rfl, hs, hb⟩ := hrel
    have HB := hide hb
    have hsz := hb.size
    by_cases hlt : j < l.length
    · obtain ⟨g, off, rfl, hgm, hcell, hs1⟩ := strs_at (HO.out.below HB.out hf) hlt
      have HSN := hide (without_snoc x l j hlt)
      have hwl := without_len x l j
      have hgl := hf _ hgm
      by_cases he : l[j] = x
      · have e1 := txt_yes he
        have HE := hide (show without x (l.take (j + 1)) = without x (l.take j) from by rw [HSN.out, if_pos (tb_true he), List.append_nil])
        have HS := hide hs
        clear he HSN hs hb
        generalize l[j] = y at *
        go_wp2
        go_roundw
        case rel => exact ⟨j + 1, _, _, _, us, by omega, rfl, by go_num, by rw [HE.out]; exact HS.out, HB.out⟩
        case measure => simp [intOf]; omega
      · have e1 := txt_no he
        have HE := hide (show without x (l.take (j + 1)) = without x (l.take j) ++ [l[j]] from by rw [HSN.out, if_neg (by rw [tb_false he]; simp)])
        have HS := hide (hs.alloc (.cells #[.string l[j]] 9))
        have HDS := hide (fun W => str_src l[j] hs1 W)
        clear he HSN hs hb
        generalize l[j] = y at *
        go_wp2_with (first | (at_builtin; refine wpl_app rfl _ _ 22 rfl ia _ 16 Try.underlying22 HIa.out ha0 ha1 ha2 rfl (by decide) strC_len rfl HS.out [y] (HDS.out _) (by exact New.nil _ _) (fun g _ hg => by cases hg) _ 1 1 rfl rfl (SrcAt.new wr _ _ _ _) (by omega) (by decide) (by rw [World.size_alloc]; omega) ?_; intro A2 n2 c2 w5 hn5 hown5 hgb5; have HG5 := hide hgb5; have HN5 := hide hown5; clear hown5 hgb5 hn5))
        go_roundw
        case rel => exact ⟨j + 1, A2, n2, c2, _, by omega, rfl, by go_num, by rw [HE.out]; exact HN5.out, HB.out.trans (((Below.refl _ wr).alloc hsz _).trans (HG5.out.toBelow (by rw [World.size_alloc]; omega) (fun g e => HS.out.from e)))⟩
        case measure => simp [intOf]; omega
    · obtain rfl : j = l.length := by omega
      rw [List.take_length] at hs
      have HS := hide hs
      clear hs hb
      go_wp2
      go_ret
      exact ⟨_, us, rfl, HS.out, HB.out⟩
set_option maxRecDepth 100000 in
set_option maxHeartbeats 1000000 in
theorem l41After_any (d : Disk) (us0 : List Value) (fp : List Nat) (m : Nat) (w : World) (h : OwC w d.cells us0 fp) (hf : Lt fp w.heap.size) (hbk : d.bulk ≤ 1048576) (hm : m ≤ d.moves.length) :
    Calls Try.prog 122 #[.agg us0.toArray, .int .i64 (m : Int)] w fun e w' => ∃ v us, e = .returned v ∧ OwS w' w.heap.size 9 1 strC v (d.afterW m) us [] ∧ Below w.heap.size w w' := by
  obtain ⟨A1, c1, A2, c2, A3, c3, f1, f2, f3, rfl, o1, o2, o3, rfl⟩ := h.oDisk
  clear h
  obtain ⟨_, hc2, hm2⟩ := o2.nlen
  obtain ⟨_, hc3, hm3⟩ := o3.nlen
  unfold maxLen at hm2 hm3
  have hkb := d.bulk_eq
  unfold bulkStrs DiskFile.bulkL DiskMove.bulkL at hkb
  have RD : Row (w.alloc (.cells #[.slice A1 d.files.length c1, .slice A2 d.names.length c2, .slice A3 d.moves.length c3] 83)) w.heap.size 83 [.slice A1 d.files.length c1, .slice A2 d.names.length c2, .slice A3 d.moves.length c3] := Row.new w _ _
  obtain ⟨W1, hW1⟩ : ∃ W1, w.alloc (.cells #[.slice A1 d.files.length c1, .slice A2 d.names.length c2, .slice A3 d.moves.length c3] 83) = W1 := ⟨_, rfl⟩
  have hB1 : Below w.heap.size w W1 := hW1 ▸ (Below.refl _ _).alloc (Nat.le_refl _) _
  have hszW : w.heap.size + 1 ≤ W1.heap.size := by rw [← hW1, World.size_alloc]; exact Nat.le_refl _
  rw [hW1] at RD
  have HB1 := hide hB1
  have HRD := hide RD
  have O2 := hide (o2.below hB1 hf.right.left)
  have O3 := hide o3
  obtain ⟨ia, hia, ha0, ha1, ha2⟩ := info_parts info_string
  have HIa := hide hia
  obtain ⟨us, hsu, hsa⟩ := (O2.out.alloc (hf.right.left.mono hB1.size) (.cells #[] 9)).srcStrs
  have HSU := hide hsu
  have HSA := hide hsa
  have d1 : W1.cell? ⟨w.heap.size, 1, none⟩ = some (.slice A2 d.names.length c2) := RD.cell 1
  have ld := RD.lt
  clear o1 o2 o3 hia hB1 RD hsu hsa
  go_enter Try.func122, Try.ntmps122
  go_wp2_with (first | (at_builtin; refine wpl_app rfl _ _ 22 rfl ia _ 16 Try.underlying22 HIa.out ha0 ha1 ha2 rfl (by decide) strC_len rfl (OwS.lit0 W1 (w.heap.size + 1) hszW 9 1 strC) d.names HSU.out (by exact New.nil _ _) (fun g _ hg => by cases hg) _ _ _ rfl rfl HSA.out (by simp only [List.length_nil]; omega) (by decide) (by rw [World.size_alloc]; omega) ?_; intro A' n' c' w5 hn5 hown5 hgb5; have HG5 := hide hgb5; have HN5 := hide hown5; clear hown5 hgb5 hn5))
  have HRD5 := hide (HG5.out.row (HRD.out.alloc _) (fun e => by have e' : W1.heap.size = w.heap.size := (by injection e); omega))
  have HB5 := hide (HB1.out.trans (((Below.refl w.heap.size W1).alloc (by omega) _).trans (HG5.out.toBelow (by rw [World.size_alloc]; omega) (fun g e => by have e' : W1.heap.size = g := (by injection e); omega))))
  have HS0 := hide (show OwS w5 (w.heap.size + 1) 9 1 strC (.slice A' n' c') (d.afterW 0) ([] ++ us) [] from by rw [d.afterW_zero]; exact HN5.out)
  clear d1 ld HSU HSA HG5 HN5 HB1 HRD
  go_loopw [5, 6] (fun s i wr => ∃ (j : Nat) (A' : Option Addr) (n' c' : Nat) (us : List Value), j ≤ m ∧ s = .slice A' n' c' ∧ i = .int .i64 (j : Int) ∧ OwS wr (w.heap.size + 1) 9 1 strC (.slice A' n' c') (d.afterW j) us [] ∧ Below w.heap.size w wr ∧ Row wr w.heap.size 83 [.slice A1 d.files.length c1, .slice A2 d.names.length c2, .slice A3 d.moves.length c3]) (fun _ i _ => m - (intOf i).toNat)
  case atStart => exact ⟨0, _, _, _, _, Nat.zero_le _, rfl, rfl, HS0.out, HB5.out, HRD5.out⟩
  case round =>
    clear HS0 HB5 HRD5
    obtain ⟨j, A', n', c', us, hj, rfl, rfl, hs, hb, hrd⟩ := hrel
    have HB := hide hb
    have HRD := hide hrd
    have hsz := hb.size
    have hsz1 : w.heap.size + 1 ≤ wr.heap.size := hrd.lt
    have ld := hrd.lt
    have d2 : wr.cell? ⟨w.heap.size, 2, none⟩ = some (.slice A3 d.moves.length c3) := hrd.cell 2
    have hal := afterW_len d j
    by_cases hlt : j < m
    · have hlt2 : j < d.moves.length := by omega
      obtain ⟨g, off, ws, fi, rfl, hgm, hfi, hwl, hcs, hov⟩ := (O3.out.below HB.out hf.right.right).elem DiskMove.cells_len hlt2
      have HSN := hide (d.afterW_succ j hlt2)
      have hgl := hf.right.right _ hgm
      have hgw := Nat.lt_of_lt_of_le hgl hsz
      have hbt : ((j : Int) < (m : Int)) := by omega
      obtain ⟨rfl, hs1, rfl⟩ := hov.oDiskMove
      have p0 := hcs 0 _ rfl
      have p1 := hcs 1 _ rfl
      simp only [Nat.add_zero] at p0
      clear hcs hov hb hrd
      by_cases hg : d.moves[j].gone = true
      · have HE := hide (show d.afterW (j + 1) = without d.moves[j].name (d.afterW j) from by rw [HSN.out]; unfold DiskMove.stepW; rw [if_pos hg])
        obtain ⟨fp', ho', hn', _⟩ := hs.toOw'
        have HO' := hide ho'
        have HN' := hide hn'
        clear HSN hs ho' hn'
        generalize d.moves[j] = y at *
        rw [hg] at p0
        clear hg
        generalize d.afterW j = L at *
        go_wp2_with fail
        refine (l41Without_any L _ _ _ _ _ _ HO'.out HN'.out.lt hs1 (by omega)).mono ?_
        rintro e w2 ⟨v, us2, rfl, hs2, hb2⟩
        obtain ⟨A2', c2', rfl⟩ := hs2.form
        have HS2 := hide (hs2.lower hsz1)
        have HB2 := hide (HB.out.trans (hb2.mono hsz))
        have HRD2 := hide (HRD.out.below hb2 HRD.out.lt)
        clear hs2 hb2
        go_wp2
        go_roundw
        case rel => exact ⟨j + 1, _, _, _, us2, by omega, rfl, by go_num, by rw [HE.out]; exact HS2.out, HB2.out, HRD2.out⟩
        case measure => simp [intOf]; omega
      · have hg' : d.moves[j].gone = false := by simpa using hg
        have HE := hide (show d.afterW (j + 1) = d.afterW j ++ [d.moves[j].name] from by rw [HSN.out]; unfold DiskMove.stepW; rw [if_neg hg])
        have HS := hide (hs.alloc (.cells #[.string d.moves[j].name] 9))
        have HDS := hide (fun W => str_src d.moves[j].name hs1 W)
        clear HSN hs hg
        generalize d.moves[j] = y at *
        rw [hg'] at p0
        clear hg'
        generalize d.afterW j = L at *
        go_wp2_with (first | (at_builtin; refine wpl_app rfl _ _ 22 rfl ia _ 16 Try.underlying22 HIa.out ha0 ha1 ha2 rfl (by decide) strC_len rfl HS.out [y.name] (HDS.out _) (by exact New.nil _ _) (fun g _ hg => by cases hg) _ 1 1 rfl rfl (SrcAt.new wr _ _ _ _) (by omega) (by decide) (by rw [World.size_alloc]; omega) ?_; intro A5 n5 c5 w5 hn5 hown5 hgb5; have HG5 := hide hgb5; have HN5 := hide hown5; clear hown5 hgb5 hn5))
        go_roundw
        case rel => exact ⟨j + 1, A5, n5, c5, _, by omega, rfl, by go_num, by rw [HE.out]; exact HN5.out, HB.out.trans (((Below.refl _ wr).alloc hsz _).trans (HG5.out.toBelow (by rw [World.size_alloc]; omega) (fun g e => Nat.le_of_succ_le (HS.out.from e)))), HG5.out.row (HRD.out.alloc _) (HS.out.low (Nat.lt_succ_self _))⟩
        case measure => simp [intOf]; omega
    · obtain rfl : j = m := by omega
      have HS := hide hs
      clear hs hb
      go_wp2
      go_ret
      exact ⟨_, us, rfl, HS.out.lower (Nat.le_succ _), HB.out⟩
end Go.Proofs.Ytdingkbggjehoaa
