/-
  The first tree of a schema: the program.
-/
import Derived.Test.YtdingkbggjehoaaFirst
import Derived.Test.YtdingkbggjehoaaLib
import Derived.Deep.RegionHeld3
import Derived.Deep.RegionLaw
set_option linter.unusedVariables false
set_option linter.unusedSimpArgs false
namespace Go.Proofs.Ytdingkbggjehoaa
open Go.ChangeShapes Go.WideShapes Go.ChangeAt Go.RowKit

theorem gb_fresh {α : Type} {w w1 : World} {e : TypeId} {k : Nat} {f : α → List D} {v : Value} {l : List α} {us : List Value} {fi : List Nat} (hb : Below w.heap.size w w1) (hn : OwS w1 w.heap.size e k f v l us fi) : GB w w1 (.slice none 0 0) v := by
  refine ⟨⟨hb.os, hb.tape, hb.output, hb.size, fun i hi _ => hb.block i hi⟩, ?_⟩
  cases hv : v.ownBlock with
  | none => exact .inl rfl
  | some g => exact .inr ⟨g, rfl, hn.from hv⟩
def FirstI (k : Kind) : Prop := ∀ (us : List Value) (fp : List Nat) (lv : Nat) (w : World), OwC w k.cells us fp → Lt fp w.heap.size → k.bulk ≤ 1048576 → k.good lv →
  Calls Try.prog 85 #[.agg us.toArray] w (FirstRet k.firstT w)
set_option maxRecDepth 100000 in
set_option maxHeartbeats 2000000 in
theorem firstI_of (k : Kind) (ih : ∀ x ∈ k.kids, FirstI x) : FirstI k := by
  intro us fp lv w hk hf hbk hg
  obtain ⟨A1, c1, A2, c2, f1, f2, rfl, w0, o1, o2, rfl⟩ := hk.oKind
  obtain ⟨_, hcap1, hmx1⟩ := o1.nlen
  obtain ⟨_, hcap2, hmx2⟩ := o2.nlen
  unfold maxLen at hmx1 hmx2
  have hkb := k.bulk_eq
  unfold bulkStrs at hkb
  have RK : Row (((w.alloc (.cells #[.int .i64 k.sort, .slice A1 k.names.length c1, .slice A2 k.kids.length c2] 30)).alloc (.cells #[.int .i64 0, .int .i64 0, .string .empty, .slice none 0 0, .slice none 0 0] 35)).alloc (.cells #[.int .i64 k.sort, .int .i64 0, .string .empty, .slice none 0 0, .slice none 0 0] 35)) w.heap.size 30 [.int .i64 k.sort, .slice A1 k.names.length c1, .slice A2 k.kids.length c2] := ((Row.new w _ _).alloc _).alloc _
  have RZ : Row (((w.alloc (.cells #[.int .i64 k.sort, .slice A1 k.names.length c1, .slice A2 k.kids.length c2] 30)).alloc (.cells #[.int .i64 0, .int .i64 0, .string .empty, .slice none 0 0, .slice none 0 0] 35)).alloc (.cells #[.int .i64 k.sort, .int .i64 0, .string .empty, .slice none 0 0, .slice none 0 0] 35)) (w.heap.size + 1) 35 [.int .i64 0, .int .i64 0, .string .empty, .slice none 0 0, .slice none 0 0] := by
    have h := (Row.new (w.alloc (.cells #[.int .i64 k.sort, .slice A1 k.names.length c1, .slice A2 k.kids.length c2] 30)) 35 [.int .i64 0, .int .i64 0, .string .empty, .slice none 0 0, .slice none 0 0]).alloc (.cells #[.int .i64 k.sort, .int .i64 0, .string .empty, .slice none 0 0, .slice none 0 0] 35)
    rw [World.size_alloc] at h
    exact h
  have RT : Row (((w.alloc (.cells #[.int .i64 k.sort, .slice A1 k.names.length c1, .slice A2 k.kids.length c2] 30)).alloc (.cells #[.int .i64 0, .int .i64 0, .string .empty, .slice none 0 0, .slice none 0 0] 35)).alloc (.cells #[.int .i64 k.sort, .int .i64 0, .string .empty, .slice none 0 0, .slice none 0 0] 35)) (w.heap.size + 2) 35 [.int .i64 k.sort, .int .i64 0, .string .empty, .slice none 0 0, .slice none 0 0] := by
    have h := Row.new ((w.alloc (.cells #[.int .i64 k.sort, .slice A1 k.names.length c1, .slice A2 k.kids.length c2] 30)).alloc (.cells #[.int .i64 0, .int .i64 0, .string .empty, .slice none 0 0, .slice none 0 0] 35)) 35 [.int .i64 k.sort, .int .i64 0, .string .empty, .slice none 0 0, .slice none 0 0]
    rw [World.size_alloc, World.size_alloc] at h
    exact h
  have HT0 := hide (show TreeAt (((w.alloc (.cells #[.int .i64 k.sort, .slice A1 k.names.length c1, .slice A2 k.kids.length c2] 30)).alloc (.cells #[.int .i64 0, .int .i64 0, .string .empty, .slice none 0 0, .slice none 0 0] 35)).alloc (.cells #[.int .i64 k.sort, .int .i64 0, .string .empty, .slice none 0 0, .slice none 0 0] 35)) (w.heap.size + 2) k.sort (.slice none 0 0) [] [] (.slice none 0 0) [] [] [] from ⟨RT, OwS.nil _ _ _ _ _, OwS.nil _ _ _ _ _, by omega, fun g h => (by cases h), fun g h => (by cases h), fun g h => (by cases h), fun g h => (by cases h)⟩)
  have HB0 := hide (show Below w.heap.size w (((w.alloc (.cells #[.int .i64 k.sort, .slice A1 k.names.length c1, .slice A2 k.kids.length c2] 30)).alloc (.cells #[.int .i64 0, .int .i64 0, .string .empty, .slice none 0 0, .slice none 0 0] 35)).alloc (.cells #[.int .i64 k.sort, .int .i64 0, .string .empty, .slice none 0 0, .slice none 0 0] 35)) from (((Below.refl _ w).alloc (Nat.le_refl _) _).alloc (by rw [World.size_alloc]; omega) _).alloc (by rw [World.size_alloc, World.size_alloc]; omega) _)
  have HK0 := hide RK
  have HZ0 := hide RZ
  have O1 := hide o1
  have O2 := hide o2
  have HG := hide hg
  have HI := hide ih
  have hfe := hide (k.firstT_eq lv hg)
  obtain ⟨ia, hia, ha0, ha1, ha2⟩ := info_parts info_string
  obtain ⟨ib, hib, hb0, hb1, hb2⟩ := info_parts info_Tree'
  have HIa := hide hia
  have HIb := hide hib
  clear hk o1 o2 hg ih RK RZ RT hia hib
  by_cases hs5 : k.sort = 5
  · have b5 : (k.sort == 5) = true := by simp [hs5]
    have HFT := hide (k.firstT_five hs5)
    clear hs5
    go_enter Try.func85, Try.ntmps85
    go_wp2_with fail
    refine (cloneStr_any k.names _ _ _ _ _ (O1.out.below HB0.out hf.left) (by omega)).mono ?_
    rintro e w2 ⟨v', rfl, hv', hb2⟩
    obtain ⟨Bv, dv, rfl⟩ := hv'.form
    have hsz3 : (((w.alloc (.cells #[.int .i64 k.sort, .slice A1 k.names.length c1, .slice A2 k.kids.length c2] 30)).alloc (.cells #[.int .i64 0, .int .i64 0, .string .empty, .slice none 0 0, .slice none 0 0] 35)).alloc (.cells #[.int .i64 k.sort, .int .i64 0, .string .empty, .slice none 0 0, .slice none 0 0] 35)).heap.size = w.heap.size + 3 := by simp only [World.size_alloc]
    have HV := hide (show OwS w2 (w.heap.size + 2 + 1) 9 1 strC (.slice Bv k.names.length dv) k.names (k.names.map Value.string) [] from by have h := hv'; rw [hsz3] at h; exact h)
    have HGB := hide (gb_fresh hb2 hv')
    have r2 := HT0.out.row1 HGB.out
    have t3 : w2.cell? ⟨w.heap.size + 2, 3, none⟩ = some (.slice none 0 0) := r2.cell 3
    have t3f : w2.frozen? ⟨w.heap.size + 2, 3, none⟩ = false := r2.frozen 3
    have lt2 := r2.lt
    have HT1 := hide (HT0.out.put1 HGB.out HV.out 3 rfl (fun g hg => by cases hg))
    have HB1 := hide (HB0.out.trans ((hb2.mono HB0.out.size).setCell (p := ⟨w.heap.size + 2, 3, none⟩) (by show w.heap.size ≤ w.heap.size + 2; omega) (.slice Bv k.names.length dv)))
    have HK1 := hide (Row.far (p := ⟨w.heap.size + 2, 3, none⟩) (HK0.out.below hb2 HK0.out.lt) (by simp) (.slice Bv k.names.length dv))
    have HZ1 := hide (Row.far (p := ⟨w.heap.size + 2, 3, none⟩) (HZ0.out.below hb2 HZ0.out.lt) (by simp) (.slice Bv k.names.length dv))
    have lkk := (HK0.out.below hb2 HK0.out.lt).lt
    have k2c : w2.cell? ⟨w.heap.size, 2, none⟩ = some (.slice A2 k.kids.length c2) := (HK0.out.below hb2 HK0.out.lt).cell 2
    clear hv' hb2 r2 HT0 HB0 HK0 HZ0 HV HGB
    go_wp2
    go_loopw [19] (fun i wr => (∃ (j : Nat) (B2 : Option Addr) (n2 d2 : Nat) (us2 : List Value) (fi2 : List Nat), j ≤ k.kids.length ∧ i = .int .i64 (j : Int) ∧ TreeAt wr (w.heap.size + 2) k.sort (.slice Bv k.names.length dv) k.names (k.names.map Value.string) (.slice B2 n2 d2) ((k.kids.take j).map Kind.firstT) us2 fi2) ∧ Below w.heap.size w wr ∧ Row wr w.heap.size 30 [.int .i64 k.sort, .slice A1 k.names.length c1, .slice A2 k.kids.length c2] ∧ Row wr (w.heap.size + 1) 35 [.int .i64 0, .int .i64 0, .string .empty, .slice none 0 0, .slice none 0 0]) (fun i _ => k.kids.length - (intOf i).toNat)
    case atStart => exact ⟨⟨0, none, 0, 0, [], [], Nat.zero_le _, rfl, HT1.out⟩, HB1.out, HK1.out, HZ1.out⟩
    case round =>
      obtain ⟨⟨j, B2, n2, d2, us2, fi2, hj, rfl, hT⟩, hb, hrk, hrz⟩ := hrel
      have HB := hide hb
      have HRK := hide hrk
      have HRZ := hide hrz
      obtain ⟨B1, n1, d1, us1, hB1, hn1, hd1, hu1⟩ : ∃ (B1 : Option Addr) (n1 d1 : Nat) (us1 : List Value), B1 = Bv ∧ n1 = k.names.length ∧ d1 = dv ∧ us1 = k.names.map Value.string := ⟨_, _, _, _, rfl, rfl, rfl, rfl⟩
      have hT : TreeAt wr (w.heap.size + 2) k.sort (.slice B1 n1 d1) k.names us1 (.slice B2 n2 d2) ((k.kids.take j).map Kind.firstT) us2 fi2 := by
        subst hB1 hn1 hd1 hu1
        exact hT
      have HBACK := hide (show ∀ W v2 l2 us2 fi2, TreeAt W (w.heap.size + 2) k.sort (.slice B1 n1 d1) k.names us1 v2 l2 us2 fi2 → TreeAt W (w.heap.size + 2) k.sort (.slice Bv k.names.length dv) k.names (k.names.map Value.string) v2 l2 us2 fi2 from by
        subst hB1 hn1 hd1 hu1
        exact fun _ _ _ _ _ h => h)
      have hszA : w.heap.size + 3 ≤ wr.heap.size := by have := hT.box.lt; omega
      clear hb hrk hrz HT1 HB1 HK1 HZ1 t3 t3f lt2 lkk k2c hB1 hn1 hd1 hu1
      by_cases hlt2 : j < k.kids.length
      · have HSK := hide (kids_snoc k.kids j hlt2)
        obtain ⟨ga, offa, wsa, fia, rfl, hgma, hfia, hwla, hcsa, hova⟩ := (O2.out.below HB.out hf.right).elem Kind.cells_len hlt2
        have HOa := hide hova
        have HFa := hide ((hf.right.sub hfia).up HB.out)
        have HGa := hide (Kind.kid_good HG.out hlt2)
        have hba := Nat.le_trans (Kind.kid_bulk hlt2) hbk
        have hgla := hf.right _ hgma
        have hgwa := Nat.lt_of_lt_of_le hgla HB.out.size
        have HC := hide (HI.out _ (List.getElem_mem hlt2))
        obtain ⟨C1a, m1a, C2a, m2a, s1a, s2a, rfl, n0a, l1a, l2a, rfl⟩ := hova.oKind
        have p0a := hcsa 0 _ rfl
        have p1a := hcsa 1 _ rfl
        have p2a := hcsa 2 _ rfl
        simp only [Nat.add_zero] at p0a
        clear hcsa hova l1a l2a hfia
        generalize k.kids[j] = x at *
        obtain ⟨wc, hwc⟩ : ∃ wc, wr.alloc (.cells #[.int .i64 x.sort, .slice C1a x.names.length m1a, .slice C2a x.kids.length m2a] 30) = wc := ⟨_, rfl⟩
        have hbA : Below wr.heap.size wr wc := hwc ▸ (Below.refl _ _).alloc (Nat.le_refl _) _
        have RX : Row wc wr.heap.size 30 [.int .i64 x.sort, .slice C1a x.names.length m1a, .slice C2a x.kids.length m2a] := hwc ▸ Row.new wr _ _
        have HTc := hide (hT.below hbA)
        have HBc := hide (HB.out.trans (hbA.mono HB.out.size))
        have HRKc := hide (HRK.out.below hbA HRK.out.lt)
        have HRZc := hide (HRZ.out.below hbA HRZ.out.lt)
        have HOa := hide (HOa.out.below hbA HFa.out)
        have HFa := hide (HFa.out.up hbA)
        have hszA := Nat.le_trans hszA hbA.size
        have t4 : wc.cell? ⟨w.heap.size + 2, 4, none⟩ = some (.slice B2 n2 d2) := HTc.out.box.cell 4
        have lt1 := HTc.out.box.lt
        have x0 := RX.cell 0
        have x1 := RX.cell 1
        have x2 := RX.cell 2
        have lx := RX.lt
        have hwC := hwc
        clear hT hbA hwc RX
        go_wp2
        go_region_law (first | (refine step_app (by rfl) _ _ 33 (by rfl) ib _ 80 Try.underlying33 HIb.out hb0 hb1 hb2 rfl (by decide) Tree.cells_len (by rfl) HT4.out.two [x.firstT] (by rw [List.flatMap_singleton]; exact HO4.out) (New.app HT4.out.two.new (HN4.out.mono (Nat.le_refl _)) (fun g hg => HTc.out.two.new.lt g hg) (by exact hszA)) (fun g e hm => by have h1 := HTc.out.two.lt g e; have h2 := (HN3.out.fr g hm).1; exact absurd h1 (Nat.not_lt.2 h2)) _ 1 1 (by rfl) rfl (SrcAt.new w3 _ _ _ _) (by rw [List.length_map, List.length_take]; omega) (by decide) (by rw [World.size_alloc]; exact Nat.le_succ_of_le (Nat.le_trans hszA HB3.out.size)) ?_; intro A' n' c' w5 hn5 hown5 hgb5; have HG5 := hide hgb5; have HN5 := hide hown5; have r5 := HT4.out.row2 hgb5; have q5 : w5.cell? ⟨w.heap.size + 2, 4, none⟩ = some (.slice B2 n2 d2) := r5.cell 4; have f5 : w5.frozen? ⟨w.heap.size + 2, 4, none⟩ = false := r5.frozen 4; have HNN5 := hide hn5; clear hown5 hgb5 r5 hn5) | (go_simp; go_at_call 85; refine (HC.out _ _ (lv + 1) _ (HOa.out.drewN 1) (HFa.out.mono (Nat.le_refl _)) hba HGa.out).mono ?_; rintro e w3 ⟨us3, fq3, rfl, ho3, hn3, hb3⟩; have HO3 := hide ho3; have HN3 := hide hn3; obtain ⟨E1, e1, E2, e2, g1, g2, rfl, y0, y1, y2, z1, z2, efq⟩ := ho3.oTree; have HT3 := hide ((HTc.out.drewN 1).below hb3); have HB3 := hide ((below_drewN (Below.refl wc.heap.size wc) 1).trans hb3); have t4c : w3.cell? ⟨w.heap.size + 2, 4, none⟩ = some (.slice B2 n2 d2) := HT3.out.box.cell 4; have lt3 := HT3.out.box.lt; have HT4 := hide (HT3.out.alloc (.cells #[.int .i64 x.firstT.sort, .int .i64 x.firstT.num, .string x.firstT.text, .slice E1 x.firstT.names.length e1, .slice E2 x.firstT.kids.length e2] 35)); have HO4 := hide (HO3.out.alloc HN3.out.lt (.cells #[.int .i64 x.firstT.sort, .int .i64 x.firstT.num, .string x.firstT.text, .slice E1 x.firstT.names.length e1, .slice E2 x.firstT.kids.length e2] 35)); have HN4 := hide (HN3.out.alloc (.cells #[.int .i64 x.firstT.sort, .int .i64 x.firstT.num, .string x.firstT.text, .slice E1 x.firstT.names.length e1, .slice E2 x.firstT.kids.length e2] 35)); clear ho3 hn3 hb3 z1 z2 efq))
        all_goals
          have HF5 := hide (fun W (hW : W = w5.setCell ⟨w.heap.size + 2, 4, none⟩ (.slice A' n' c')) => show TreeAt W (w.heap.size + 2) k.sort (.slice B1 n1 d1) k.names us1 (.slice A' n' c') (((k.kids.take j).map Kind.firstT) ++ [x.firstT]) (us2 ++ [.int .i64 x.firstT.sort, .int .i64 x.firstT.num, .string x.firstT.text, .slice E1 x.firstT.names.length e1, .slice E2 x.firstT.kids.length e2]) (fi2 ++ fq3) ∧ Below w.heap.size w W ∧ Row W w.heap.size 30 [.int .i64 k.sort, .slice A1 k.names.length c1, .slice (some ⟨ga, offa, none⟩) k.kids.length c2] ∧ Row W (w.heap.size + 1) 35 [.int .i64 0, .int .i64 0, .string .empty, .slice none 0 0, .slice none 0 0] from by
            subst hW
            refine ⟨HT4.out.put2 HG5.out HN5.out 4 rfl (fun g hg => ?_), ?_, ?_, ?_⟩
            · rcases List.mem_append.1 hg with hg | hg
              · exact .inl hg
              · exact .inr ⟨fun e => absurd (HTc.out.one.lt g e) (Nat.not_lt.2 (HN3.out.fr g hg).1), fun h => by cases h⟩
            · exact HBc.out.trans ((HB3.out.mono HBc.out.size).trans (((Below.refl w.heap.size w3).alloc (Nat.le_trans HBc.out.size HB3.out.size) _).trans (HT4.out.frame2 HG5.out (by rw [World.size_alloc]; exact Nat.le_succ_of_le (Nat.le_trans hszA HB3.out.size)) 4 _ (by omega))))
            · exact Row.far (p := ⟨w.heap.size + 2, 4, none⟩) (HG5.out.row ((HRKc.out.below HB3.out HRKc.out.lt).alloc _) (HT4.out.two.low (by omega))) (by simp) _
            · exact Row.far (p := ⟨w.heap.size + 2, 4, none⟩) (HG5.out.row ((HRZc.out.below HB3.out HRZc.out.lt).alloc _) (HT4.out.two.low (by omega))) (by simp) _)
          go_wp2
          go_roundw
          case rel => exact ⟨⟨j + 1, A', n', c', _, _, by omega, by go_num, HBACK.out _ _ _ _ _ (by rw [HSK.out]; exact (HF5.out _ rfl).1)⟩, (HF5.out _ rfl).2⟩
          case measure => simp [intOf]; omega
      · obtain rfl : j = k.kids.length := by omega
        rw [List.take_length] at hT
        have HT := hide hT
        have r0 : wr.cell? ⟨w.heap.size + 2, 0, none⟩ = some (.int .i64 k.sort) := hT.box.cell 0
        have r1 : wr.cell? ⟨w.heap.size + 2, 1, none⟩ = some (.int .i64 0) := hT.box.cell 1
        have r2 : wr.cell? ⟨w.heap.size + 2, 2, none⟩ = some (.string .empty) := hT.box.cell 2
        have r3 : wr.cell? ⟨w.heap.size + 2, 3, none⟩ = some (.slice B1 n1 d1) := hT.box.cell 3
        have r4 : wr.cell? ⟨w.heap.size + 2, 4, none⟩ = some (.slice B2 n2 d2) := hT.box.cell 4
        have lt1 := hT.box.lt
        clear hT
        have z0 := HRZ.out.cell 0
        have y0 := HRZ.out.frozen 0
        have z1 := HRZ.out.cell 1
        have y1 := HRZ.out.frozen 1
        have z2 := HRZ.out.cell 2
        have y2 := HRZ.out.frozen 2
        have z3 := HRZ.out.cell 3
        have y3 := HRZ.out.frozen 3
        have z4 := HRZ.out.cell 4
        have y4 := HRZ.out.frozen 4
        go_wp2
        refine bodyPost_ret (ret_row rfl _ _ (w.heap.size + 1) 35 (treeMk k.sort (.slice B1 n1 d1) (.slice B2 n2 d2)) (HRZ.out.setAll (treeMk k.sort (.slice B1 n1 d1) (.slice B2 n2 d2)) rfl) _ rfl Try.underlying35 rfl (by kernel_rfl)) rfl ?_
        obtain ⟨fq, hx1, hx2, hx3⟩ := first_fin HT.out w0 HB.out (setN_grown (treeMk k.sort (.slice B1 n1 d1) (.slice B2 n2 d2)) 0 (grown_refl wr (some (w.heap.size + 1)))) (by omega) (Nat.le_succ _)
        refine ⟨_, fq, rfl, ?_, hx2, hx3⟩
        rw [HFT.out]
        exact hx1
  · have b5 : (k.sort == 5) = false := by simp [hs5]
    have HFT := hide (k.firstT_other hs5)
    have HFX := hide (fun W => show OwC W (Tree.mk k.sort 0 .empty [] []).cells (treeMk k.sort (.slice none 0 0) (.slice none 0 0)) [] from OwC.mTree (x := Tree.mk k.sort 0 .empty [] []) (v1 := .slice none 0 0) (v2 := .slice none 0 0) (f1 := []) (f2 := []) w0 wfz empty_le (Ow.nil_ W 1 strC) (Ow.nil_ W 5 Tree.cells))
    have HRF := hide (show Row (((w.alloc (.cells #[.int .i64 k.sort, .slice A1 k.names.length c1, .slice A2 k.kids.length c2] 30)).alloc (.cells #[.int .i64 k.sort, .int .i64 0, .string .empty, .slice none 0 0, .slice none 0 0] 35)).alloc (.cells #[.int .i64 k.sort, .int .i64 0, .string .empty, .slice none 0 0, .slice none 0 0] 35)) (w.heap.size + 1) 35 (treeMk k.sort (.slice none 0 0) (.slice none 0 0)) from by
      have h := (Row.new (w.alloc (.cells #[.int .i64 k.sort, .slice A1 k.names.length c1, .slice A2 k.kids.length c2] 30)) 35 [.int .i64 k.sort, .int .i64 0, .string .empty, .slice none 0 0, .slice none 0 0]).alloc (.cells #[.int .i64 k.sort, .int .i64 0, .string .empty, .slice none 0 0, .slice none 0 0] 35)
      rw [World.size_alloc] at h
      exact h)
    have HBF := hide (show Below w.heap.size w (((w.alloc (.cells #[.int .i64 k.sort, .slice A1 k.names.length c1, .slice A2 k.kids.length c2] 30)).alloc (.cells #[.int .i64 k.sort, .int .i64 0, .string .empty, .slice none 0 0, .slice none 0 0] 35)).alloc (.cells #[.int .i64 k.sort, .int .i64 0, .string .empty, .slice none 0 0, .slice none 0 0] 35)) from (((Below.refl _ w).alloc (Nat.le_refl _) _).alloc (by rw [World.size_alloc]; omega) _).alloc (by rw [World.size_alloc, World.size_alloc]; omega) _)
    clear hs5
    go_enter Try.func85, Try.ntmps85
    go_wp2
    refine bodyPost_ret (ret_row rfl _ _ (w.heap.size + 1) 35 (treeMk k.sort (.slice none 0 0) (.slice none 0 0)) (by first | exact HRF.out | exact HZ0.out.setAll (treeMk k.sort (.slice none 0 0) (.slice none 0 0)) rfl) _ rfl Try.underlying35 rfl (by kernel_rfl)) rfl ?_
    refine ⟨_, [], rfl, by rw [HFT.out]; exact HFX.out _, New.nil _ _, ?_⟩
    first
    | exact HBF.out
    | exact HB0.out.trans (below_of_grown (setN_grown (treeMk k.sort (.slice none 0 0) (.slice none 0 0)) 0 (grown_refl (((w.alloc (.cells #[.int .i64 k.sort, .slice A1 k.names.length c1, .slice A2 k.kids.length c2] 30)).alloc (.cells #[.int .i64 0, .int .i64 0, .string .empty, .slice none 0 0, .slice none 0 0] 35)).alloc (.cells #[.int .i64 k.sort, .int .i64 0, .string .empty, .slice none 0 0, .slice none 0 0] 35)) (some (w.heap.size + 1)))) (Nat.le_succ _) HB0.out.size)
theorem firstI_any (k : Kind) : FirstI k := Kind.ind firstI_of k
end Go.Proofs.Ytdingkbggjehoaa
