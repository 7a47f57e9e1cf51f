/-
  The first tree of a schema: the reference.
-/
import Derived.Test.YtdingkbggjehoaaFirst
import Derived.Deep.RegionHeld3
import Derived.Deep.RegionLaw
import Derived.Deep.CutRange
import Derived.Deep.DeepCutAuto
set_option linter.unusedVariables false
set_option linter.unusedSimpArgs false
namespace Go.Proofs.Ytdingkbggjehoaa
open Go.ChangeShapes Go.WideShapes Go.ChangeAt Go.RowKit

def FirstW (k : Kind) : Prop := ∀ (us : List Value) (fp : List Nat) (lv : Nat) (w : World), OwC w k.cells us fp → Lt fp w.heap.size → k.bulk ≤ 1048576 → k.good lv →
  Calls Try.prog 84 #[.agg us.toArray] w (FirstRet k.firstT w)
set_option maxRecDepth 100000 in
set_option maxHeartbeats 2000000 in
theorem firstW_of (k : Kind) (ih : ∀ x ∈ k.kids, FirstW x) : FirstW k := by
  intro us fp lv w hk hf hbk hg
  obtain ⟨A1, c1, A2, c2, f1, f2, rfl, w0, o1, o2, rfl⟩ := hk.oKind
  obtain ⟨_, hcap1, hmx1⟩ := o1.nlen
  obtain ⟨_, hcap2, hmx2⟩ := o2.nlen
  unfold maxLen at hmx1 hmx2
  have hkb := k.bulk_eq
  unfold bulkStrs at hkb
  have RK : Row (((w.alloc (.cells #[.int .i64 k.sort, .slice A1 k.names.length c1, .slice A2 k.kids.length c2] 30)).alloc (.cells #[.int .i64 0, .int .i64 0, .string .empty, .slice none 0 0, .slice none 0 0] 35)).alloc (.cells #[.int .i64 k.sort, .int .i64 0, .string .empty, .slice none 0 0, .slice none 0 0] 35)) w.heap.size 30 [.int .i64 k.sort, .slice A1 k.names.length c1, .slice A2 k.kids.length c2] := ((Row.new w _ _).alloc _).alloc _
  have RZ : Row (((w.alloc (.cells #[.int .i64 k.sort, .slice A1 k.names.length c1, .slice A2 k.kids.length c2] 30)).alloc (.cells #[.int .i64 0, .int .i64 0, .string .empty, .slice none 0 0, .slice none 0 0] 35)).alloc (.cells #[.int .i64 k.sort, .int .i64 0, .string .empty, .slice none 0 0, .slice none 0 0] 35)) (w.heap.size + 1) 35 [.int .i64 0, .int .i64 0, .string .empty, .slice none 0 0, .slice none 0 0] := by
    have h := (Row.new (w.alloc (.cells #[.int .i64 k.sort, .slice A1 k.names.length c1, .slice A2 k.kids.length c2] 30)) 35 [.int .i64 0, .int .i64 0, .string .empty, .slice none 0 0, .slice none 0 0]).alloc (.cells #[.int .i64 k.sort, .int .i64 0, .string .empty, .slice none 0 0, .slice none 0 0] 35)
    rw [World.size_alloc] at h
    exact h
  have RT : Row (((w.alloc (.cells #[.int .i64 k.sort, .slice A1 k.names.length c1, .slice A2 k.kids.length c2] 30)).alloc (.cells #[.int .i64 0, .int .i64 0, .string .empty, .slice none 0 0, .slice none 0 0] 35)).alloc (.cells #[.int .i64 k.sort, .int .i64 0, .string .empty, .slice none 0 0, .slice none 0 0] 35)) (w.heap.size + 2) 35 [.int .i64 k.sort, .int .i64 0, .string .empty, .slice none 0 0, .slice none 0 0] := by
    have h := Row.new ((w.alloc (.cells #[.int .i64 k.sort, .slice A1 k.names.length c1, .slice A2 k.kids.length c2] 30)).alloc (.cells #[.int .i64 0, .int .i64 0, .string .empty, .slice none 0 0, .slice none 0 0] 35)) 35 [.int .i64 k.sort, .int .i64 0, .string .empty, .slice none 0 0, .slice none 0 0]
    rw [World.size_alloc, World.size_alloc] at h
    exact h
  have HT0 := hide (show TreeAt (((w.alloc (.cells #[.int .i64 k.sort, .slice A1 k.names.length c1, .slice A2 k.kids.length c2] 30)).alloc (.cells #[.int .i64 0, .int .i64 0, .string .empty, .slice none 0 0, .slice none 0 0] 35)).alloc (.cells #[.int .i64 k.sort, .int .i64 0, .string .empty, .slice none 0 0, .slice none 0 0] 35)) (w.heap.size + 2) k.sort (.slice none 0 0) [] [] (.slice none 0 0) [] [] [] from ⟨RT, OwS.nil _ _ _ _ _, OwS.nil _ _ _ _ _, by omega, fun g h => (by cases h), fun g h => (by cases h), fun g h => (by cases h), fun g h => (by cases h)⟩)
  have HB0 := hide (show Below w.heap.size w (((w.alloc (.cells #[.int .i64 k.sort, .slice A1 k.names.length c1, .slice A2 k.kids.length c2] 30)).alloc (.cells #[.int .i64 0, .int .i64 0, .string .empty, .slice none 0 0, .slice none 0 0] 35)).alloc (.cells #[.int .i64 k.sort, .int .i64 0, .string .empty, .slice none 0 0, .slice none 0 0] 35)) from (((Below.refl _ w).alloc (Nat.le_refl _) _).alloc (by rw [World.size_alloc]; omega) _).alloc (by rw [World.size_alloc, World.size_alloc]; omega) _)
  have HK0 := hide RK
  have HZ0 := hide RZ
  have O1 := hide o1
  have O2 := hide o2
  have HG := hide hg
  have HI := hide ih
  have hfe := hide (k.firstT_eq lv hg)
  obtain ⟨ia, hia, ha0, ha1, ha2⟩ := info_parts info_string
  obtain ⟨ib, hib, hb0, hb1, hb2⟩ := info_parts info_Tree'
  have HIa := hide hia
  have HIb := hide hib
  clear hk o1 o2 hg ih RK RZ RT hia hib
  go_enter Try.func84, Try.ntmps84
  go_wp2
  go_loopw [4] (fun i wr => (∃ j : Nat, j ≤ k.names.length ∧ i = .int .i64 (j : Int) ∧ ∃ (B1 : Option Addr) (n1 d1 : Nat) (us1 : List Value) (B2 : Option Addr) (n2 d2 : Nat) (us2 : List Value) (fi2 : List Nat), TreeAt wr (w.heap.size + 2) k.sort (.slice B1 n1 d1) (k.names.take j) us1 (.slice B2 n2 d2) ((k.kids.take j).map Kind.firstT) us2 fi2) ∧ Below w.heap.size w wr ∧ Row wr w.heap.size 30 [.int .i64 k.sort, .slice A1 k.names.length c1, .slice A2 k.kids.length c2] ∧ Row wr (w.heap.size + 1) 35 [.int .i64 0, .int .i64 0, .string .empty, .slice none 0 0, .slice none 0 0]) (fun i _ => k.names.length - (intOf i).toNat)
  case atStart => exact ⟨⟨0, Nat.zero_le _, rfl, none, 0, 0, [], none, 0, 0, [], [], HT0.out⟩, HB0.out, HK0.out, HZ0.out⟩
  case round =>
    obtain ⟨⟨j, hj, rfl, B1, n1, d1, us1, B2, n2, d2, us2, fi2, hT⟩, hb, hrk, hrz⟩ := hrel
    have HB := hide hb
    have HRK := hide hrk
    have HRZ := hide hrz
    have hszA : w.heap.size + 3 ≤ wr.heap.size := by have := hT.box.lt; omega
    have lk := HRK.out.lt
    have k1 : wr.cell? ⟨w.heap.size, 1, none⟩ = some (.slice A1 k.names.length c1) := HRK.out.cell 1
    clear hb hrk hrz
    by_cases hlt : j < k.names.length
    · have hlt2 : j < k.kids.length := Nat.lt_of_lt_of_le hlt hfe.out.2
      obtain ⟨g, off, rfl, hgm, hcell, hs1⟩ := strs_at (O1.out.below HB.out hf.left) hlt
      have hgwg := Nat.lt_of_lt_of_le (hf.left _ hgm) HB.out.size
      have hgl2 : g < w.heap.size := hf.left _ hgm
      have HSN := hide (strs_take k.names j hlt)
      have HSK := hide (kids_snoc k.kids j hlt2)
      have lt1 := hT.box.lt
      have t3 : wr.cell? ⟨w.heap.size + 2, 3, none⟩ = some (.slice B1 n1 d1) := hT.box.cell 3
      have HT2 := hide ((hT.drewN 1).alloc (.cells #[.string k.names[j]] 9))
      have HSZ := hide (show w.heap.size + 3 ≤ ((wr.drewN 1).alloc (.cells #[.string k.names[j]] 9)).heap.size by rw [World.size_alloc]; exact Nat.le_succ_of_le hszA)
      have HDS := hide (fun W => show OwC W ([k.names[j]].flatMap strC) [.string k.names[j]] [] from ⟨[], [], ⟨rfl, hs1, rfl⟩, rfl, rfl⟩)
      clear hT
      generalize k.names[j] = nm at *
      go_upto_region 5 with fail
      go_cut [] from 8 to 35 (fun wx => ∃ (B1 : Option Addr) (n1 d1 : Nat) (us1 : List Value), TreeAt wx (w.heap.size + 2) k.sort (.slice B1 n1 d1) (k.names.take j ++ [nm]) us1 (.slice B2 n2 d2) ((k.kids.take j).map Kind.firstT) us2 fi2 ∧ Below w.heap.size w wx ∧ Row wx w.heap.size 30 [.int .i64 k.sort, .slice (some ⟨g, off, none⟩) k.names.length c1, .slice A2 k.kids.length c2] ∧ Row wx (w.heap.size + 1) 35 [.int .i64 0, .int .i64 0, .string .empty, .slice none 0 0, .slice none 0 0])
      case first =>
        go_region_law (first | (refine step_app (by rfl) _ _ 22 (by rfl) ia _ 16 Try.underlying22 HIa.out ha0 ha1 ha2 rfl (by decide) strC_len (by rfl) HT2.out.one [nm] (HDS.out _) (by exact New.nil _ _) (fun g _ hg => by cases hg) _ 1 1 (by rfl) rfl (SrcAt.new (wr.drewN 1) _ _ _ _) (by rw [List.length_take]; omega) (by decide) HSZ.out ?_; intro A' n' c' w5 hn5 hown5 hgb5; have HG5 := hide hgb5; have HN5 := hide hown5; have r5 := HT2.out.row1 hgb5; have q5 : w5.cell? ⟨w.heap.size + 2, 3, none⟩ = some (.slice B1 n1 d1) := r5.cell 3; have f5 : w5.frozen? ⟨w.heap.size + 2, 3, none⟩ = false := r5.frozen 3; have HNN5 := hide hn5; clear hown5 hgb5 r5 hn5))
        all_goals
          go_wp2_with fail
          go_meet
          refine ⟨A', n', c', us1 ++ [.string nm], HT2.out.put1 HG5.out HN5.out 3 rfl (fun g hg => by cases hg), ?_, ?_, ?_⟩
          · exact HB.out.trans (((below_drewN (Below.refl _ wr) 1).alloc (show w.heap.size ≤ wr.heap.size by omega) _).trans (HT2.out.frame1 HG5.out HSZ.out 3 _ (by omega)))
          · exact Row.far (p := ⟨w.heap.size + 2, 3, none⟩) (HG5.out.row ((HRK.out.drewN 1).alloc _) (HT2.out.one.low (by omega))) (by simp) (.slice A' n' c')
          · exact Row.far (p := ⟨w.heap.size + 2, 3, none⟩) (HG5.out.row ((HRZ.out.drewN 1).alloc _) (HT2.out.one.low (by omega))) (by simp) (.slice A' n' c')
      case rest =>
        clear HT2 HSZ t3 hszA lt1 k1 lk hcell hgwg HB HRK HRZ
        obtain ⟨B1, n1, d1, us1, hT, hb, hrk, hrz⟩ := hcut
        have HB := hide hb
        have HRK := hide hrk
        have HRZ := hide hrz
        have HTc := hide hT
        have hszA : w.heap.size + 3 ≤ wc.heap.size := by have := hT.box.lt; omega
        have lk := HRK.out.lt
        have lt1 := hT.box.lt
        have k2 : wc.cell? ⟨w.heap.size, 2, none⟩ = some (.slice A2 k.kids.length c2) := HRK.out.cell 2
        have t4 : wc.cell? ⟨w.heap.size + 2, 4, none⟩ = some (.slice B2 n2 d2) := hT.box.cell 4
        clear hb hrk hrz hT
        obtain ⟨ga, offa, wsa, fia, rfl, hgma, hfia, hwla, hcsa, hova⟩ := (O2.out.below HB.out hf.right).elem Kind.cells_len hlt2
        have HOa := hide hova
        have HFa := hide ((hf.right.sub hfia).up HB.out)
        have HGa := hide (Kind.kid_good HG.out hlt2)
        have hba := Nat.le_trans (Kind.kid_bulk hlt2) hbk
        have hgla := hf.right _ hgma
        have hgwa := Nat.lt_of_lt_of_le hgla HB.out.size
        have HC := hide (HI.out _ (List.getElem_mem hlt2))
        obtain ⟨C1a, m1a, C2a, m2a, s1a, s2a, rfl, n0a, l1a, l2a, rfl⟩ := hova.oKind
        have p0a := hcsa 0 _ rfl
        have p1a := hcsa 1 _ rfl
        have p2a := hcsa 2 _ rfl
        simp only [Nat.add_zero] at p0a
        clear hcsa hova l1a l2a hfia
        generalize k.kids[j] = x at *
        go_wp2
        go_region_law (first | (refine step_app (by rfl) _ _ 33 (by rfl) ib _ 80 Try.underlying33 HIb.out hb0 hb1 hb2 rfl (by decide) Tree.cells_len (by rfl) HT4.out.two [x.firstT] (by rw [List.flatMap_singleton]; exact HO4.out) (New.app HT4.out.two.new (HN4.out.mono (Nat.le_refl _)) (fun g hg => HTc.out.two.new.lt g hg) (by exact hszA)) (fun g e hm => by have h1 := HTc.out.two.lt g e; have h2 := (HN3.out.fr g hm).1; exact absurd h1 (Nat.not_lt.2 h2)) _ 1 1 (by rfl) rfl (SrcAt.new w3 _ _ _ _) (by rw [List.length_map, List.length_take]; omega) (by decide) (by rw [World.size_alloc]; exact Nat.le_succ_of_le (Nat.le_trans hszA HB3.out.size)) ?_; intro A' n' c' w5 hn5 hown5 hgb5; have HG5 := hide hgb5; have HN5 := hide hown5; have r5 := HT4.out.row2 hgb5; have q5 : w5.cell? ⟨w.heap.size + 2, 4, none⟩ = some (.slice B2 n2 d2) := r5.cell 4; have f5 : w5.frozen? ⟨w.heap.size + 2, 4, none⟩ = false := r5.frozen 4; have HNN5 := hide hn5; clear hown5 hgb5 r5 hn5) | (go_simp; go_at_call 84; refine (HC.out _ _ (lv + 1) _ (HOa.out.drewN 1) (HFa.out.mono (Nat.le_refl _)) hba HGa.out).mono ?_; rintro e w3 ⟨us3, fq3, rfl, ho3, hn3, hb3⟩; have HO3 := hide ho3; have HN3 := hide hn3; obtain ⟨E1, e1, E2, e2, g1, g2, rfl, y0, y1, y2, z1, z2, efq⟩ := ho3.oTree; have HT3 := hide ((HTc.out.drewN 1).below hb3); have HB3 := hide ((below_drewN (Below.refl wc.heap.size wc) 1).trans hb3); have t4c : w3.cell? ⟨w.heap.size + 2, 4, none⟩ = some (.slice B2 n2 d2) := HT3.out.box.cell 4; have lt3 := HT3.out.box.lt; have HT4 := hide (HT3.out.alloc (.cells #[.int .i64 x.firstT.sort, .int .i64 x.firstT.num, .string x.firstT.text, .slice E1 x.firstT.names.length e1, .slice E2 x.firstT.kids.length e2] 35)); have HO4 := hide (HO3.out.alloc HN3.out.lt (.cells #[.int .i64 x.firstT.sort, .int .i64 x.firstT.num, .string x.firstT.text, .slice E1 x.firstT.names.length e1, .slice E2 x.firstT.kids.length e2] 35)); have HN4 := hide (HN3.out.alloc (.cells #[.int .i64 x.firstT.sort, .int .i64 x.firstT.num, .string x.firstT.text, .slice E1 x.firstT.names.length e1, .slice E2 x.firstT.kids.length e2] 35)); clear ho3 hn3 hb3 z1 z2 efq))
        all_goals
          have HF5 := hide (fun W (hW : W = w5.setCell ⟨w.heap.size + 2, 4, none⟩ (.slice A' n' c')) => show TreeAt W (w.heap.size + 2) k.sort (.slice B1 n1 d1) (k.names.take j ++ [nm]) us1 (.slice A' n' c') (((k.kids.take j).map Kind.firstT) ++ [x.firstT]) (us2 ++ [.int .i64 x.firstT.sort, .int .i64 x.firstT.num, .string x.firstT.text, .slice E1 x.firstT.names.length e1, .slice E2 x.firstT.kids.length e2]) (fi2 ++ fq3) ∧ Below w.heap.size w W ∧ Row W w.heap.size 30 [.int .i64 k.sort, .slice (some ⟨g, off, none⟩) k.names.length c1, .slice (some ⟨ga, offa, none⟩) k.kids.length c2] ∧ Row W (w.heap.size + 1) 35 [.int .i64 0, .int .i64 0, .string .empty, .slice none 0 0, .slice none 0 0] from by
            subst hW
            refine ⟨HT4.out.put2 HG5.out HN5.out 4 rfl (fun g hg => ?_), ?_, ?_, ?_⟩
            · rcases List.mem_append.1 hg with hg | hg
              · exact .inl hg
              · exact .inr ⟨fun e => absurd (HTc.out.one.lt g e) (Nat.not_lt.2 (HN3.out.fr g hg).1), fun h => by cases h⟩
            · exact HB.out.trans ((HB3.out.mono HB.out.size).trans (((Below.refl w.heap.size w3).alloc (Nat.le_trans HB.out.size HB3.out.size) _).trans (HT4.out.frame2 HG5.out (by rw [World.size_alloc]; exact Nat.le_succ_of_le (Nat.le_trans hszA HB3.out.size)) 4 _ (by omega))))
            · exact Row.far (p := ⟨w.heap.size + 2, 4, none⟩) (HG5.out.row ((HRK.out.below HB3.out HRK.out.lt).alloc _) (HT4.out.two.low (by omega))) (by simp) _
            · exact Row.far (p := ⟨w.heap.size + 2, 4, none⟩) (HG5.out.row ((HRZ.out.below HB3.out HRZ.out.lt).alloc _) (HT4.out.two.low (by omega))) (by simp) _)
          go_wp2
          go_roundw
          case rel => exact ⟨⟨j + 1, by omega, by go_num, B1, n1, d1, us1, A', n', c', _, _, by rw [HSN.out, HSK.out]; exact (HF5.out _ rfl).1⟩, (HF5.out _ rfl).2⟩
          case measure => simp [intOf]; omega
    · obtain rfl : j = k.names.length := by omega
      have HT := hide hT
      have r0 : wr.cell? ⟨w.heap.size + 2, 0, none⟩ = some (.int .i64 k.sort) := hT.box.cell 0
      have r1 : wr.cell? ⟨w.heap.size + 2, 1, none⟩ = some (.int .i64 0) := hT.box.cell 1
      have r2 : wr.cell? ⟨w.heap.size + 2, 2, none⟩ = some (.string .empty) := hT.box.cell 2
      have r3 : wr.cell? ⟨w.heap.size + 2, 3, none⟩ = some (.slice B1 n1 d1) := hT.box.cell 3
      have r4 : wr.cell? ⟨w.heap.size + 2, 4, none⟩ = some (.slice B2 n2 d2) := hT.box.cell 4
      have lt1 := hT.box.lt
      clear hT
      have z0 := HRZ.out.cell 0
      have y0 := HRZ.out.frozen 0
      have z1 := HRZ.out.cell 1
      have y1 := HRZ.out.frozen 1
      have z2 := HRZ.out.cell 2
      have y2 := HRZ.out.frozen 2
      have z3 := HRZ.out.cell 3
      have y3 := HRZ.out.frozen 3
      have z4 := HRZ.out.cell 4
      have y4 := HRZ.out.frozen 4
      go_wp2
      refine bodyPost_ret (ret_row rfl _ _ (w.heap.size + 1) 35 (treeMk k.sort (.slice B1 n1 d1) (.slice B2 n2 d2)) (HRZ.out.setAll (treeMk k.sort (.slice B1 n1 d1) (.slice B2 n2 d2)) rfl) _ rfl Try.underlying35 rfl (by kernel_rfl)) rfl ?_
      obtain ⟨fq, hx1, hx2, hx3⟩ := first_fin HT.out w0 HB.out (setN_grown (treeMk k.sort (.slice B1 n1 d1) (.slice B2 n2 d2)) 0 (grown_refl wr (some (w.heap.size + 1)))) (by omega) (Nat.le_succ _)
      refine ⟨_, fq, rfl, ?_, hx2, hx3⟩
      rw [hfe.out.1]
      exact hx1
theorem firstW_any (k : Kind) : FirstW k := Kind.ind firstW_of k
end Go.Proofs.Ytdingkbggjehoaa
