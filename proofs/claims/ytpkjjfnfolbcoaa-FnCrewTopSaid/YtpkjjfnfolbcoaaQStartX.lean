/-
  Small facts for the start of a world of a crew by the program, and the start that is refused. The program's CrewStart: its slices are of the call's own.
-/
import Derived.Test.YtpkjjfnfolbcoaaQStart
import Derived.Test.YtpkjjfnfolbcoaaQPlayB
import Derived.Test.YtpkjjfnfolbcoaaQRep
set_option linter.unusedVariables false
set_option linter.unusedSimpArgs false
namespace Go.Proofs.Ytpkjjfnfolbcoaa
open Go.ChangeShapes Go.WideShapes Go.ChangeAt Go.RowKit

theorem info_CrewHandI : (Try.prog.info? 88).map (fun i => (i.zero, i.size, i.bytes)) = some (some (.agg #[.int .i64 0, .int .i64 0]), 2, 16) := by kernel_rfl
theorem Row.newAt (w : World) (e : TypeId) (cs : List Value) (g : Nat) (h : w.heap.size = g) : Row (w.alloc (.cells cs.toArray e)) g e cs := h ▸ Row.new w e cs
theorem Row.drew {w : World} {g : Nat} {e : TypeId} {cs : List Value} (h : Row w g e cs) : Row w.drew g e cs := h
theorem made2 (n : Nat) : madeCells #[Value.int .i64 0, .int .i64 0] n = (List.replicate n (Value.int .i64 0)).toArray := by
  apply Array.ext
  · simp [size_madeCells]
  · intro i h1 h2
    have h3 : i % 2 < 2 := Nat.mod_lt _ (by omega)
    simp only [madeCells, Array.getElem_map, Array.getElem_range, List.getElem_toArray, List.getElem_replicate]
    show (#[Value.int .i64 0, .int .i64 0] : Array Value)[i % 2]! = _
    rcases (by omega : i % 2 = 0 ∨ i % 2 = 1) with e | e <;> rw [e] <;> rfl
set_option maxRecDepth 100000 in
set_option maxHeartbeats 2000000 in
theorem implCrewStart_no (n0 n1 n2 : Int) (w : World) (hok : ¬ crewOk n0 n1 n2) :
    Calls Try.prog 23 #[.int .i64 n0, .int .i64 n1, .int .i64 n2] w (StartRet n0 n1 n2 w) := by
  · have hok' := hok
    have RZ : Row (w.alloc (.cells zeroCells.toArray 30)) w.heap.size 30 zeroCells := Row.new w _ _
    have HB := hide (show Below w.heap.size w (w.alloc (.cells zeroCells.toArray 30)) from (Below.refl _ _).alloc (Nat.le_refl _) _)
    by_cases k0 : 0 ≤ n0 ∧ n0 ≤ 60
    · by_cases k1 : 1 ≤ n1 ∧ n1 ≤ 8
      · have k2 : ¬ (1 ≤ n2 ∧ n2 ≤ 16) := fun h => hok ⟨k0, k1, h⟩
        go_enter Try.func23, Try.ntmps23
        go_wp2_with fail
        refine (inRange_any _ _ _ _).mono ?_
        rintro e w_ ⟨rfl, rfl⟩
        rw [tb_true k0]
        go_wp2_with fail
        refine (inRange_any _ _ _ _).mono ?_
        rintro e w_ ⟨rfl, rfl⟩
        rw [tb_true k1]
        go_wp2_with fail
        refine (inRange_any _ _ _ _).mono ?_
        rintro e w_ ⟨rfl, rfl⟩
        rw [tb_false k2]
        go_wp2
        refine bodyPost_ret (ret_row_tmp rfl _ _ w.heap.size 30 zeroCells (by first | exact RZ | exact RZ.setAll zeroCells rfl) _ (.bool false) rfl rfl Try.underlying30 rfl (by kernel_rfl)) rfl ?_
        exact ⟨_, [], by rw [tb_false hok], by rw [startOf_no hok]; exact none_ow _, New.nil _ _, by first | exact HB.out | exact (HB.out.trans (below_of_grown (w := w.alloc (.cells zeroCells.toArray 30)) (g := w.heap.size) (setN_grown zeroCells 0 (grown_refl _ _)) (Nat.le_refl _) HB.out.size))⟩
      · go_enter Try.func23, Try.ntmps23
        go_wp2_with fail
        refine (inRange_any _ _ _ _).mono ?_
        rintro e w_ ⟨rfl, rfl⟩
        rw [tb_true k0]
        go_wp2_with fail
        refine (inRange_any _ _ _ _).mono ?_
        rintro e w_ ⟨rfl, rfl⟩
        rw [tb_false k1]
        go_wp2
        refine bodyPost_ret (ret_row_tmp rfl _ _ w.heap.size 30 zeroCells (by first | exact RZ | exact RZ.setAll zeroCells rfl) _ (.bool false) rfl rfl Try.underlying30 rfl (by kernel_rfl)) rfl ?_
        exact ⟨_, [], by rw [tb_false hok], by rw [startOf_no hok]; exact none_ow _, New.nil _ _, by first | exact HB.out | exact (HB.out.trans (below_of_grown (w := w.alloc (.cells zeroCells.toArray 30)) (g := w.heap.size) (setN_grown zeroCells 0 (grown_refl _ _)) (Nat.le_refl _) HB.out.size))⟩
    · go_enter Try.func23, Try.ntmps23
      go_wp2_with fail
      refine (inRange_any _ _ _ _).mono ?_
      rintro e w_ ⟨rfl, rfl⟩
      rw [tb_false k0]
      go_wp2
      refine bodyPost_ret (ret_row_tmp rfl _ _ w.heap.size 30 zeroCells (by first | exact RZ | exact RZ.setAll zeroCells rfl) _ (.bool false) rfl rfl Try.underlying30 rfl (by kernel_rfl)) rfl ?_
      exact ⟨_, [], by rw [tb_false hok], by rw [startOf_no hok]; exact none_ow _, New.nil _ _, by first | exact HB.out | exact (HB.out.trans (below_of_grown (w := w.alloc (.cells zeroCells.toArray 30)) (g := w.heap.size) (setN_grown zeroCells 0 (grown_refl _ _)) (Nat.le_refl _) HB.out.size))⟩
end Go.Proofs.Ytpkjjfnfolbcoaa
set_option linter.unusedVariables false
set_option linter.unusedSimpArgs false
namespace Go.Proofs.Ytpkjjfnfolbcoaa
open Go.ChangeShapes Go.WideShapes Go.ChangeAt Go.RowKit

def StartWs (a b c : Int) (w : World) (e : Ending) (w' : World) : Prop := ∃ v : V7, e = .returned (.tuple #[.agg (v.cells (crewAt a b c)).toArray, .bool true]) ∧ Ws w' (w.heap.size + 1) (crewAt a b c) v ∧ Below w.heap.size w w'
theorem Sq.ofRow {α : Type} {W : World} {B g : Nat} {e : TypeId} {k : Nat} {f : α → List D} {l : List α} {cs : List Value} (hr : Row W g e cs) (hc : OwC W (l.flatMap f) cs []) (hl : cs.length = l.length * k) (hB : B ≤ g) (hm : l.length ≤ maxLen) : Sq W B e k f (.slice (some ⟨g, 0, none⟩) l.length l.length) l :=
  ⟨cs, ⟨⟨hl, .inr ⟨g, l.length, cs.toArray, rfl, hB, hr, Nat.le_refl _, hm, by simpa using hl, by rw [← hl]; simp⟩⟩, hc, New.nil _ _, fun _ _ => by simp⟩⟩
theorem start_closeW {n0 : Int} {m1 m2 : Nat} {w Wb : World} (hok : crewOk n0 (m1 : Int) (m2 : Int)) (bA bR bS : Nat) (rA : Row Wb bA 88 (List.replicate (m1 * 2) (.int .i64 0))) (rR : Row Wb bR 3 (List.replicate m2 (.int .i64 (-1)))) (rS : Row Wb bS 3 [.int .i64 0, .int .i64 0, .int .i64 0, .int .i64 0])
    (hA : w.heap.size < bA) (hR : w.heap.size < bR) (hS : w.heap.size < bS) (h1 : bA ≠ bR) (h2 : bA ≠ bS) (h3 : bR ≠ bS) (hb : Below w.heap.size w Wb) :
    StartWs n0 (m1 : Int) (m2 : Int) w (.returned (.tuple #[.agg (startCells n0 (m1 : Int) (m2 : Int) (.slice (some ⟨bA, 0, none⟩) m1 m1) (.slice (some ⟨bR, 0, none⟩) m2 m2) bS).toArray, .bool true]))
      (Wb.setRow w.heap.size (startCells n0 (m1 : Int) (m2 : Int) (.slice (some ⟨bA, 0, none⟩) m1 m1) (.slice (some ⟨bR, 0, none⟩) m2 m2) bS).toArray) := by
  obtain ⟨k0, k1, k2⟩ := hok
  have g1 := setRow_grown (grown_refl Wb (some w.heap.size)) (startCells n0 (m1 : Int) (m2 : Int) (.slice (some ⟨bA, 0, none⟩) m1 m1) (.slice (some ⟨bR, 0, none⟩) m2 m2) bS).toArray
  generalize hW : Wb.setRow w.heap.size _ = W2 at g1 ⊢
  have rA' := rA.grown g1 (fun e => by injection e with e; omega)
  have rR' := rR.grown g1 (fun e => by injection e with e; omega)
  have rS' := rS.grown g1 (fun e => by injection e with e; omega)
  have e1 : (m1 : Int).toNat = m1 := rfl
  have e2 : (m2 : Int).toNat = m2 := rfl
  have sA := Sq.ofRow (B := w.heap.size + 1) (k := 2) (l := List.replicate m1 (⟨0, 0⟩ : CrewHand)) rA' (hands_row _ m1) (by simp) (by omega) (by rw [List.length_replicate]; unfold maxLen; omega)
  have sR := Sq.ofRow (B := w.heap.size + 1) (k := 1) (l := List.replicate m2 (-1 : Int)) rR' (by have h := ints_row W2 (List.replicate m2 (-1 : Int)) (fun z hz => by rw [List.eq_of_mem_replicate hz]; decide); rw [List.map_replicate] at h; exact h) (by simp) (by omega) (by rw [List.length_replicate]; unfold maxLen; omega)
  have sS := Sq.ofRow (B := w.heap.size + 1) (k := 1) (l := ([0, 0, 0, 0] : List Int)) rS' (by have h := ints_row W2 ([0, 0, 0, 0] : List Int) (fun z hz => by simp at hz; subst hz; decide); exact h) rfl (by omega) (by show 4 ≤ maxLen; unfold maxLen; omega)
  rw [List.length_replicate] at sA sR
  refine ⟨⟨.slice none 0 0, .slice (some ⟨bA, 0, none⟩) m1 m1, .slice none 0 0, .slice (some ⟨bR, 0, none⟩) m2 m2, .slice none 0 0, .slice none 0 0, .slice (some ⟨bS, 0, none⟩) 4 4⟩, rfl, ⟨Sq.nil _ _ _ _ _, sA, Sq.nil _ _ _ _ _, sR, Sq.nil _ _ _ _ _, Sq.nil _ _ _ _ _, sS, ?_⟩, hb.trans (below_of_grown g1 (Nat.le_refl _) hb.size)⟩
  intro i j a c q ha hc' hq hq'
  have key : ∀ (i : Nat) (a : Value), (V7.list ⟨.slice none 0 0, .slice (some ⟨bA, 0, none⟩) m1 m1, .slice none 0 0, .slice (some ⟨bR, 0, none⟩) m2 m2, .slice none 0 0, .slice none 0 0, .slice (some ⟨bS, 0, none⟩) 4 4⟩)[i]? = some a → a.ownBlock = some q → (i = 1 ∧ q = bA) ∨ (i = 3 ∧ q = bR) ∨ (i = 6 ∧ q = bS) := by
    intro i a ha hq
    unfold V7.list at ha
    match i, ha with
    | 0, ha => injection ha with ha; subst ha; cases hq
    | 1, ha => injection ha with ha; subst ha; injection hq with hq; exact .inl ⟨rfl, hq.symm⟩
    | 2, ha => injection ha with ha; subst ha; cases hq
    | 3, ha => injection ha with ha; subst ha; injection hq with hq; exact .inr (.inl ⟨rfl, hq.symm⟩)
    | 4, ha => injection ha with ha; subst ha; cases hq
    | 5, ha => injection ha with ha; subst ha; cases hq
    | 6, ha => injection ha with ha; subst ha; injection hq with hq; exact .inr (.inr ⟨rfl, hq.symm⟩)
    | n + 7, ha => simp at ha
  have q1 := key i a ha hq
  have q2 := key j c hc' hq'
  omega
set_option maxRecDepth 100000 in
set_option maxHeartbeats 4000000 in
theorem implCrewStart_ws (n0 n1 n2 : Int) (w : World) (hok : crewOk n0 n1 n2) :
    Calls Try.prog 23 #[.int .i64 n0, .int .i64 n1, .int .i64 n2] w (StartWs n0 n1 n2 w) := by
    have HK := hide hok
    obtain ⟨k0, k1, k2⟩ := hok
    obtain ⟨m1, rfl⟩ := Int.eq_ofNat_of_zero_le (show 0 ≤ n1 by omega)
    obtain ⟨m2, rfl⟩ := Int.eq_ofNat_of_zero_le (show 0 ≤ n2 by omega)
    obtain ⟨a, hia, ha0, ha1, ha2⟩ := info_parts info_CrewHandI
    obtain ⟨b, hib, hb0, hb1, hb2⟩ := info_parts info_int
    have hmkA0 := run_make_rowN (P := Try.prog) 28 88 a _ Try.underlying28 hia ha0 .i64 .i64 m1 m1 (Nat.le_refl _) (by rw [ha2]; omega) (by omega)
    have hmkD0 := run_make_rowN (P := Try.prog) 22 3 b _ Try.underlying22 hib hb0 .i64 .i64 4 4 (Nat.le_refl _) (by rw [hb2]; omega) (by omega)
    rw [ha1] at hmkA0
    rw [hb1] at hmkD0
    have hmkD : ∀ u : World, (Instr.makeSlice 22 (.int .i64 4) (.int .i64 4)).run Try.prog u = .ok (.slice (some ⟨u.heap.size, 0, none⟩) 4 4) (u.alloc (.cells #[.int .i64 0, .int .i64 0, .int .i64 0, .int .i64 0] 3)) := fun u => by
      rw [show (#[.int .i64 0, .int .i64 0, .int .i64 0, .int .i64 0] : Array Value) = madeCells (Value.int .i64 0).cells (4 * 1) from by kernel_rfl]
      exact hmkD0 u
    have hmkA : ∀ u : World, (Instr.makeSlice 28 (.int .i64 (m1 : Int)) (.int .i64 (m1 : Int))).run Try.prog u = .ok (.slice (some ⟨u.heap.size, 0, none⟩) m1 m1) (u.alloc (.cells (List.replicate (m1 * 2) (.int .i64 0)).toArray 88)) := fun u => by
      rw [← made2]
      exact hmkA0 u
    clear hia ha0 ha1 ha2 hib hb0 hb1 hb2 a b hmkA0 hmkD0
    have RZ0 := hide (show Row (w.alloc (.cells zeroCells.toArray 30)) w.heap.size 30 zeroCells from Row.new w _ _)
    have HB0 := hide (show Below w.heap.size w (w.alloc (.cells zeroCells.toArray 30)) from (Below.refl _ _).alloc (Nat.le_refl _) _)
    go_enter Try.func23, Try.ntmps23
    go_wp2_with fail
    refine (inRange_any _ _ _ _).mono ?_
    rintro e w_ ⟨rfl, rfl⟩
    rw [tb_true k0]
    go_wp2_with fail
    refine (inRange_any _ _ _ _).mono ?_
    rintro e w_ ⟨rfl, rfl⟩
    rw [tb_true k1]
    go_wp2_with fail
    refine (inRange_any _ _ _ _).mono ?_
    rintro e w_ ⟨rfl, rfl⟩
    rw [tb_true k2]
    go_wp2
    refine wp_region_any (by kernel_rfl) ?_
    (try (change wpAny _ _ _ _ _ _ _ (World.drew _)))
    refine wpAny_take (i := 0) (v := .int .i64 n0) rfl (by kernel_rfl) (by kernel_rfl) (by kernel_rfl) (fun _ _ _ h => h) (Or.inl ⟨by rfl, by (intro w; go_simp; first | done | with_reducible rfl | rfl)⟩) ?_
    refine wpAny_take (i := 1) (v := .int .i64 (m1 : Int)) rfl (by kernel_rfl) (by kernel_rfl) (by kernel_rfl) (fun _ _ _ h => h) (Or.inl ⟨by rfl, by (intro w; go_simp; first | done | with_reducible rfl | rfl)⟩) ?_
    refine wpAny_take (i := 2) (v := .int .i64 (m2 : Int)) rfl (by kernel_rfl) (by kernel_rfl) (by kernel_rfl) (fun _ _ _ h => h) (Or.inl ⟨by rfl, by (intro w; go_simp; first | done | with_reducible rfl | rfl)⟩) ?_
    refine wpAny_take (i := 3) (v := .int .i64 (m2 : Int)) rfl (by kernel_rfl) (by kernel_rfl) (by kernel_rfl) (fun _ _ _ h => h) (Or.inl ⟨by rfl, by (intro w; go_simp; first | done | with_reducible rfl | rfl)⟩) ?_
    refine wpAny_take (i := 4) (v := .int .i64 (m1 : Int)) rfl (by kernel_rfl) (by kernel_rfl) (by kernel_rfl) (fun _ _ _ h => h) (Or.inl ⟨by rfl, by (intro w; go_simp; first | done | with_reducible rfl | rfl)⟩) ?_
    refine wpAny_take (i := 7) (v := .int .i64 (m2 : Int)) rfl (by kernel_rfl) (by kernel_rfl) (by kernel_rfl) (fun _ _ _ h => h) (Or.inl ⟨by rfl, by (intro w; go_simp; first | done | with_reducible rfl | rfl)⟩) ?_
    refine wpAny_ready (rs := [5, 6, 9]) (by kernel_rfl) (by simp) ?_
    refine AllReady.cons rfl (fun K hK => ?_) ?_
    · go_simp
      first | (refine hK _ _ ?_; clear hK K) | skip
      refine wpAny_ready (rs := [6, 9]) (by kernel_rfl) (by simp) ?_
      refine AllReady.cons rfl (fun K hK => ?_) ?_
      · go_simp
        first | (refine hK _ _ ?_; clear hK K) | skip
        refine wpAny_ready (rs := [8, 9]) (by kernel_rfl) (by simp) ?_
        refine AllReady.cons rfl (fun K hK => ?_) ?_
        · go_simp
          go_at_call 69
          refine (repeat_any m2 (by omega) (by omega) _ (-1) _ (by go_simp)).mono ?_
          rintro e w2 ⟨rfl, q, rfl⟩
          try go_simp
          first | (refine hK _ _ ?_; clear hK K) | skip
          refine wpAny_ready (rs := [9]) (by kernel_rfl) (by simp) ?_
          refine AllReady.cons rfl (fun K hK => ?_) ?_
          · go_simp
            first | (refine hK _ _ ?_; clear hK K) | skip
            refine wpAny_take (i := 10) (v := .agg (startCells n0 (m1 : Int) (m2 : Int) (.slice (some ⟨(w.heap.size + 1), 0, none⟩) m1 m1) (.slice (some ⟨(w.heap.size + 3), 0, none⟩) m2 m2) (w.heap.size + 4)).toArray) rfl (by kernel_rfl) (by kernel_rfl) (by kernel_rfl) (fun _ _ _ h => h) (Or.inl ⟨by rfl, by (intro w; go_simp; first | done | with_reducible rfl | rfl)⟩) ?_
            refine wpAny_ready (rs := [11]) (by kernel_rfl) (by simp) ?_
            refine AllReady.cons rfl (fun K hK => ?_) AllReady.nil
            rw [if_pos (by simp [Region.wanted])]
            refine wp_store_row 30 _ _ rfl w.heap.size (startCells n0 (m1 : Int) (m2 : Int) (.slice (some ⟨(w.heap.size + 1), 0, none⟩) m1 m1) (.slice (some ⟨(w.heap.size + 3), 0, none⟩) m2 m2) (w.heap.size + 4)).toArray rfl rfl 30 zeroCells.toArray (show Row _ w.heap.size 30 zeroCells from by (repeat (first | exact RZ0.out | exact Row.newAt _ _ _ _ (by simp) | refine Row.alloc ?_ _ | refine Row.drewN ?_ _ | refine Row.drew ?_))) (by kernel_rfl) (startCells_size _ _ _ _ _ _) (startCells_one _ _ _ _ _ _ _ _ _ _) ?_
            refine hK _ _ ?_
            clear hK K
            refine wpAny_take (i := 12) (v := .bool true) rfl (by kernel_rfl) (by kernel_rfl) (by kernel_rfl) (fun _ _ _ h => h) (Or.inl ⟨by rfl, by (intro w; go_simp; first | done | with_reducible rfl | rfl)⟩) ?_
            refine wpAny_done (by kernel_rfl) ?_ _
            go_wp2
            refine bodyPost_ret (ret_row_tmp rfl _ _ w.heap.size 30 (startCells n0 (m1 : Int) (m2 : Int) (.slice (some ⟨(w.heap.size + 1), 0, none⟩) m1 m1) (.slice (some ⟨(w.heap.size + 3), 0, none⟩) m2 m2) (w.heap.size + 4)) (Row.setRow' (cs := zeroCells) (by (repeat (first | exact RZ0.out | exact Row.newAt _ _ _ _ (by simp) | refine Row.alloc ?_ _ | refine Row.drewN ?_ _ | refine Row.drew ?_))) (startCells n0 (m1 : Int) (m2 : Int) (.slice (some ⟨(w.heap.size + 1), 0, none⟩) m1 m1) (.slice (some ⟨(w.heap.size + 3), 0, none⟩) m2 m2) (w.heap.size + 4))) _ (.bool true) rfl rfl Try.underlying30 rfl (by kernel_rfl)) rfl ?_
            refine start_closeW HK.out (w.heap.size + 1) (w.heap.size + 3) (w.heap.size + 4) (by (repeat (first | exact RZ0.out | exact Row.newAt _ _ _ _ (by simp) | refine Row.alloc ?_ _ | refine Row.drewN ?_ _ | refine Row.drew ?_))) (by (repeat (first | exact RZ0.out | exact Row.newAt _ _ _ _ (by simp) | refine Row.alloc ?_ _ | refine Row.drewN ?_ _ | refine Row.drew ?_))) (by (repeat (first | exact RZ0.out | exact Row.newAt _ _ _ _ (by simp) | refine Row.alloc ?_ _ | refine Row.drewN ?_ _ | refine Row.drew ?_))) (by omega) (by omega) (by omega) (by omega) (by omega) (by omega) ?_
            (repeat (first | exact HB0.out | refine Below.alloc ?_ (by simp; try omega) _ | refine below_drewN ?_ _ | refine Below.drew ?_))
          exact AllReady.nil
        refine AllReady.cons rfl (fun K hK => ?_) ?_
        · go_simp
          first | (refine hK _ _ ?_; clear hK K) | skip
          refine wpAny_ready (rs := [8]) (by kernel_rfl) (by simp) ?_
          refine AllReady.cons rfl (fun K hK => ?_) ?_
          · go_simp
            go_at_call 69
            refine (repeat_any m2 (by omega) (by omega) _ (-1) _ (by go_simp)).mono ?_
            rintro e w2 ⟨rfl, q, rfl⟩
            try go_simp
            first | (refine hK _ _ ?_; clear hK K) | skip
            refine wpAny_take (i := 10) (v := .agg (startCells n0 (m1 : Int) (m2 : Int) (.slice (some ⟨(w.heap.size + 1), 0, none⟩) m1 m1) (.slice (some ⟨(w.heap.size + 4), 0, none⟩) m2 m2) (w.heap.size + 3)).toArray) rfl (by kernel_rfl) (by kernel_rfl) (by kernel_rfl) (fun _ _ _ h => h) (Or.inl ⟨by rfl, by (intro w; go_simp; first | done | with_reducible rfl | rfl)⟩) ?_
            refine wpAny_ready (rs := [11]) (by kernel_rfl) (by simp) ?_
            refine AllReady.cons rfl (fun K hK => ?_) AllReady.nil
            rw [if_pos (by simp [Region.wanted])]
            refine wp_store_row 30 _ _ rfl w.heap.size (startCells n0 (m1 : Int) (m2 : Int) (.slice (some ⟨(w.heap.size + 1), 0, none⟩) m1 m1) (.slice (some ⟨(w.heap.size + 4), 0, none⟩) m2 m2) (w.heap.size + 3)).toArray rfl rfl 30 zeroCells.toArray (show Row _ w.heap.size 30 zeroCells from by (repeat (first | exact RZ0.out | exact Row.newAt _ _ _ _ (by simp) | refine Row.alloc ?_ _ | refine Row.drewN ?_ _ | refine Row.drew ?_))) (by kernel_rfl) (startCells_size _ _ _ _ _ _) (startCells_one _ _ _ _ _ _ _ _ _ _) ?_
            refine hK _ _ ?_
            clear hK K
            refine wpAny_take (i := 12) (v := .bool true) rfl (by kernel_rfl) (by kernel_rfl) (by kernel_rfl) (fun _ _ _ h => h) (Or.inl ⟨by rfl, by (intro w; go_simp; first | done | with_reducible rfl | rfl)⟩) ?_
            refine wpAny_done (by kernel_rfl) ?_ _
            go_wp2
            refine bodyPost_ret (ret_row_tmp rfl _ _ w.heap.size 30 (startCells n0 (m1 : Int) (m2 : Int) (.slice (some ⟨(w.heap.size + 1), 0, none⟩) m1 m1) (.slice (some ⟨(w.heap.size + 4), 0, none⟩) m2 m2) (w.heap.size + 3)) (Row.setRow' (cs := zeroCells) (by (repeat (first | exact RZ0.out | exact Row.newAt _ _ _ _ (by simp) | refine Row.alloc ?_ _ | refine Row.drewN ?_ _ | refine Row.drew ?_))) (startCells n0 (m1 : Int) (m2 : Int) (.slice (some ⟨(w.heap.size + 1), 0, none⟩) m1 m1) (.slice (some ⟨(w.heap.size + 4), 0, none⟩) m2 m2) (w.heap.size + 3))) _ (.bool true) rfl rfl Try.underlying30 rfl (by kernel_rfl)) rfl ?_
            refine start_closeW HK.out (w.heap.size + 1) (w.heap.size + 4) (w.heap.size + 3) (by (repeat (first | exact RZ0.out | exact Row.newAt _ _ _ _ (by simp) | refine Row.alloc ?_ _ | refine Row.drewN ?_ _ | refine Row.drew ?_))) (by (repeat (first | exact RZ0.out | exact Row.newAt _ _ _ _ (by simp) | refine Row.alloc ?_ _ | refine Row.drewN ?_ _ | refine Row.drew ?_))) (by (repeat (first | exact RZ0.out | exact Row.newAt _ _ _ _ (by simp) | refine Row.alloc ?_ _ | refine Row.drewN ?_ _ | refine Row.drew ?_))) (by omega) (by omega) (by omega) (by omega) (by omega) (by omega) ?_
            (repeat (first | exact HB0.out | refine Below.alloc ?_ (by simp; try omega) _ | refine below_drewN ?_ _ | refine Below.drew ?_))
          exact AllReady.nil
        exact AllReady.nil
      refine AllReady.cons rfl (fun K hK => ?_) ?_
      · go_simp
        first | (refine hK _ _ ?_; clear hK K) | skip
        refine wpAny_ready (rs := [6]) (by kernel_rfl) (by simp) ?_
        refine AllReady.cons rfl (fun K hK => ?_) ?_
        · go_simp
          first | (refine hK _ _ ?_; clear hK K) | skip
          refine wpAny_ready (rs := [8]) (by kernel_rfl) (by simp) ?_
          refine AllReady.cons rfl (fun K hK => ?_) ?_
          · go_simp
            go_at_call 69
            refine (repeat_any m2 (by omega) (by omega) _ (-1) _ (by go_simp)).mono ?_
            rintro e w2 ⟨rfl, q, rfl⟩
            try go_simp
            first | (refine hK _ _ ?_; clear hK K) | skip
            refine wpAny_take (i := 10) (v := .agg (startCells n0 (m1 : Int) (m2 : Int) (.slice (some ⟨(w.heap.size + 1), 0, none⟩) m1 m1) (.slice (some ⟨(w.heap.size + 4), 0, none⟩) m2 m2) (w.heap.size + 2)).toArray) rfl (by kernel_rfl) (by kernel_rfl) (by kernel_rfl) (fun _ _ _ h => h) (Or.inl ⟨by rfl, by (intro w; go_simp; first | done | with_reducible rfl | rfl)⟩) ?_
            refine wpAny_ready (rs := [11]) (by kernel_rfl) (by simp) ?_
            refine AllReady.cons rfl (fun K hK => ?_) AllReady.nil
            rw [if_pos (by simp [Region.wanted])]
            refine wp_store_row 30 _ _ rfl w.heap.size (startCells n0 (m1 : Int) (m2 : Int) (.slice (some ⟨(w.heap.size + 1), 0, none⟩) m1 m1) (.slice (some ⟨(w.heap.size + 4), 0, none⟩) m2 m2) (w.heap.size + 2)).toArray rfl rfl 30 zeroCells.toArray (show Row _ w.heap.size 30 zeroCells from by (repeat (first | exact RZ0.out | exact Row.newAt _ _ _ _ (by simp) | refine Row.alloc ?_ _ | refine Row.drewN ?_ _ | refine Row.drew ?_))) (by kernel_rfl) (startCells_size _ _ _ _ _ _) (startCells_one _ _ _ _ _ _ _ _ _ _) ?_
            refine hK _ _ ?_
            clear hK K
            refine wpAny_take (i := 12) (v := .bool true) rfl (by kernel_rfl) (by kernel_rfl) (by kernel_rfl) (fun _ _ _ h => h) (Or.inl ⟨by rfl, by (intro w; go_simp; first | done | with_reducible rfl | rfl)⟩) ?_
            refine wpAny_done (by kernel_rfl) ?_ _
            go_wp2
            refine bodyPost_ret (ret_row_tmp rfl _ _ w.heap.size 30 (startCells n0 (m1 : Int) (m2 : Int) (.slice (some ⟨(w.heap.size + 1), 0, none⟩) m1 m1) (.slice (some ⟨(w.heap.size + 4), 0, none⟩) m2 m2) (w.heap.size + 2)) (Row.setRow' (cs := zeroCells) (by (repeat (first | exact RZ0.out | exact Row.newAt _ _ _ _ (by simp) | refine Row.alloc ?_ _ | refine Row.drewN ?_ _ | refine Row.drew ?_))) (startCells n0 (m1 : Int) (m2 : Int) (.slice (some ⟨(w.heap.size + 1), 0, none⟩) m1 m1) (.slice (some ⟨(w.heap.size + 4), 0, none⟩) m2 m2) (w.heap.size + 2))) _ (.bool true) rfl rfl Try.underlying30 rfl (by kernel_rfl)) rfl ?_
            refine start_closeW HK.out (w.heap.size + 1) (w.heap.size + 4) (w.heap.size + 2) (by (repeat (first | exact RZ0.out | exact Row.newAt _ _ _ _ (by simp) | refine Row.alloc ?_ _ | refine Row.drewN ?_ _ | refine Row.drew ?_))) (by (repeat (first | exact RZ0.out | exact Row.newAt _ _ _ _ (by simp) | refine Row.alloc ?_ _ | refine Row.drewN ?_ _ | refine Row.drew ?_))) (by (repeat (first | exact RZ0.out | exact Row.newAt _ _ _ _ (by simp) | refine Row.alloc ?_ _ | refine Row.drewN ?_ _ | refine Row.drew ?_))) (by omega) (by omega) (by omega) (by omega) (by omega) (by omega) ?_
            (repeat (first | exact HB0.out | refine Below.alloc ?_ (by simp; try omega) _ | refine below_drewN ?_ _ | refine Below.drew ?_))
          exact AllReady.nil
        exact AllReady.nil
      exact AllReady.nil
    refine AllReady.cons rfl (fun K hK => ?_) ?_
    · go_simp
      first | (refine hK _ _ ?_; clear hK K) | skip
      refine wpAny_ready (rs := [5, 8, 9]) (by kernel_rfl) (by simp) ?_
      refine AllReady.cons rfl (fun K hK => ?_) ?_
      · go_simp
        first | (refine hK _ _ ?_; clear hK K) | skip
        refine wpAny_ready (rs := [8, 9]) (by kernel_rfl) (by simp) ?_
        refine AllReady.cons rfl (fun K hK => ?_) ?_
        · go_simp
          go_at_call 69
          refine (repeat_any m2 (by omega) (by omega) _ (-1) _ (by go_simp)).mono ?_
          rintro e w2 ⟨rfl, q, rfl⟩
          try go_simp
          first | (refine hK _ _ ?_; clear hK K) | skip
          refine wpAny_ready (rs := [9]) (by kernel_rfl) (by simp) ?_
          refine AllReady.cons rfl (fun K hK => ?_) ?_
          · go_simp
            first | (refine hK _ _ ?_; clear hK K) | skip
            refine wpAny_take (i := 10) (v := .agg (startCells n0 (m1 : Int) (m2 : Int) (.slice (some ⟨(w.heap.size + 2), 0, none⟩) m1 m1) (.slice (some ⟨(w.heap.size + 3), 0, none⟩) m2 m2) (w.heap.size + 4)).toArray) rfl (by kernel_rfl) (by kernel_rfl) (by kernel_rfl) (fun _ _ _ h => h) (Or.inl ⟨by rfl, by (intro w; go_simp; first | done | with_reducible rfl | rfl)⟩) ?_
            refine wpAny_ready (rs := [11]) (by kernel_rfl) (by simp) ?_
            refine AllReady.cons rfl (fun K hK => ?_) AllReady.nil
            rw [if_pos (by simp [Region.wanted])]
            refine wp_store_row 30 _ _ rfl w.heap.size (startCells n0 (m1 : Int) (m2 : Int) (.slice (some ⟨(w.heap.size + 2), 0, none⟩) m1 m1) (.slice (some ⟨(w.heap.size + 3), 0, none⟩) m2 m2) (w.heap.size + 4)).toArray rfl rfl 30 zeroCells.toArray (show Row _ w.heap.size 30 zeroCells from by (repeat (first | exact RZ0.out | exact Row.newAt _ _ _ _ (by simp) | refine Row.alloc ?_ _ | refine Row.drewN ?_ _ | refine Row.drew ?_))) (by kernel_rfl) (startCells_size _ _ _ _ _ _) (startCells_one _ _ _ _ _ _ _ _ _ _) ?_
            refine hK _ _ ?_
            clear hK K
            refine wpAny_take (i := 12) (v := .bool true) rfl (by kernel_rfl) (by kernel_rfl) (by kernel_rfl) (fun _ _ _ h => h) (Or.inl ⟨by rfl, by (intro w; go_simp; first | done | with_reducible rfl | rfl)⟩) ?_
            refine wpAny_done (by kernel_rfl) ?_ _
            go_wp2
            refine bodyPost_ret (ret_row_tmp rfl _ _ w.heap.size 30 (startCells n0 (m1 : Int) (m2 : Int) (.slice (some ⟨(w.heap.size + 2), 0, none⟩) m1 m1) (.slice (some ⟨(w.heap.size + 3), 0, none⟩) m2 m2) (w.heap.size + 4)) (Row.setRow' (cs := zeroCells) (by (repeat (first | exact RZ0.out | exact Row.newAt _ _ _ _ (by simp) | refine Row.alloc ?_ _ | refine Row.drewN ?_ _ | refine Row.drew ?_))) (startCells n0 (m1 : Int) (m2 : Int) (.slice (some ⟨(w.heap.size + 2), 0, none⟩) m1 m1) (.slice (some ⟨(w.heap.size + 3), 0, none⟩) m2 m2) (w.heap.size + 4))) _ (.bool true) rfl rfl Try.underlying30 rfl (by kernel_rfl)) rfl ?_
            refine start_closeW HK.out (w.heap.size + 2) (w.heap.size + 3) (w.heap.size + 4) (by (repeat (first | exact RZ0.out | exact Row.newAt _ _ _ _ (by simp) | refine Row.alloc ?_ _ | refine Row.drewN ?_ _ | refine Row.drew ?_))) (by (repeat (first | exact RZ0.out | exact Row.newAt _ _ _ _ (by simp) | refine Row.alloc ?_ _ | refine Row.drewN ?_ _ | refine Row.drew ?_))) (by (repeat (first | exact RZ0.out | exact Row.newAt _ _ _ _ (by simp) | refine Row.alloc ?_ _ | refine Row.drewN ?_ _ | refine Row.drew ?_))) (by omega) (by omega) (by omega) (by omega) (by omega) (by omega) ?_
            (repeat (first | exact HB0.out | refine Below.alloc ?_ (by simp; try omega) _ | refine below_drewN ?_ _ | refine Below.drew ?_))
          exact AllReady.nil
        refine AllReady.cons rfl (fun K hK => ?_) ?_
        · go_simp
          first | (refine hK _ _ ?_; clear hK K) | skip
          refine wpAny_ready (rs := [8]) (by kernel_rfl) (by simp) ?_
          refine AllReady.cons rfl (fun K hK => ?_) ?_
          · go_simp
            go_at_call 69
            refine (repeat_any m2 (by omega) (by omega) _ (-1) _ (by go_simp)).mono ?_
            rintro e w2 ⟨rfl, q, rfl⟩
            try go_simp
            first | (refine hK _ _ ?_; clear hK K) | skip
            refine wpAny_take (i := 10) (v := .agg (startCells n0 (m1 : Int) (m2 : Int) (.slice (some ⟨(w.heap.size + 2), 0, none⟩) m1 m1) (.slice (some ⟨(w.heap.size + 4), 0, none⟩) m2 m2) (w.heap.size + 3)).toArray) rfl (by kernel_rfl) (by kernel_rfl) (by kernel_rfl) (fun _ _ _ h => h) (Or.inl ⟨by rfl, by (intro w; go_simp; first | done | with_reducible rfl | rfl)⟩) ?_
            refine wpAny_ready (rs := [11]) (by kernel_rfl) (by simp) ?_
            refine AllReady.cons rfl (fun K hK => ?_) AllReady.nil
            rw [if_pos (by simp [Region.wanted])]
            refine wp_store_row 30 _ _ rfl w.heap.size (startCells n0 (m1 : Int) (m2 : Int) (.slice (some ⟨(w.heap.size + 2), 0, none⟩) m1 m1) (.slice (some ⟨(w.heap.size + 4), 0, none⟩) m2 m2) (w.heap.size + 3)).toArray rfl rfl 30 zeroCells.toArray (show Row _ w.heap.size 30 zeroCells from by (repeat (first | exact RZ0.out | exact Row.newAt _ _ _ _ (by simp) | refine Row.alloc ?_ _ | refine Row.drewN ?_ _ | refine Row.drew ?_))) (by kernel_rfl) (startCells_size _ _ _ _ _ _) (startCells_one _ _ _ _ _ _ _ _ _ _) ?_
            refine hK _ _ ?_
            clear hK K
            refine wpAny_take (i := 12) (v := .bool true) rfl (by kernel_rfl) (by kernel_rfl) (by kernel_rfl) (fun _ _ _ h => h) (Or.inl ⟨by rfl, by (intro w; go_simp; first | done | with_reducible rfl | rfl)⟩) ?_
            refine wpAny_done (by kernel_rfl) ?_ _
            go_wp2
            refine bodyPost_ret (ret_row_tmp rfl _ _ w.heap.size 30 (startCells n0 (m1 : Int) (m2 : Int) (.slice (some ⟨(w.heap.size + 2), 0, none⟩) m1 m1) (.slice (some ⟨(w.heap.size + 4), 0, none⟩) m2 m2) (w.heap.size + 3)) (Row.setRow' (cs := zeroCells) (by (repeat (first | exact RZ0.out | exact Row.newAt _ _ _ _ (by simp) | refine Row.alloc ?_ _ | refine Row.drewN ?_ _ | refine Row.drew ?_))) (startCells n0 (m1 : Int) (m2 : Int) (.slice (some ⟨(w.heap.size + 2), 0, none⟩) m1 m1) (.slice (some ⟨(w.heap.size + 4), 0, none⟩) m2 m2) (w.heap.size + 3))) _ (.bool true) rfl rfl Try.underlying30 rfl (by kernel_rfl)) rfl ?_
            refine start_closeW HK.out (w.heap.size + 2) (w.heap.size + 4) (w.heap.size + 3) (by (repeat (first | exact RZ0.out | exact Row.newAt _ _ _ _ (by simp) | refine Row.alloc ?_ _ | refine Row.drewN ?_ _ | refine Row.drew ?_))) (by (repeat (first | exact RZ0.out | exact Row.newAt _ _ _ _ (by simp) | refine Row.alloc ?_ _ | refine Row.drewN ?_ _ | refine Row.drew ?_))) (by (repeat (first | exact RZ0.out | exact Row.newAt _ _ _ _ (by simp) | refine Row.alloc ?_ _ | refine Row.drewN ?_ _ | refine Row.drew ?_))) (by omega) (by omega) (by omega) (by omega) (by omega) (by omega) ?_
            (repeat (first | exact HB0.out | refine Below.alloc ?_ (by simp; try omega) _ | refine below_drewN ?_ _ | refine Below.drew ?_))
          exact AllReady.nil
        exact AllReady.nil
      refine AllReady.cons rfl (fun K hK => ?_) ?_
      · go_simp
        go_at_call 69
        refine (repeat_any m2 (by omega) (by omega) _ (-1) _ (by go_simp)).mono ?_
        rintro e w2 ⟨rfl, q, rfl⟩
        try go_simp
        first | (refine hK _ _ ?_; clear hK K) | skip
        refine wpAny_ready (rs := [5, 9]) (by kernel_rfl) (by simp) ?_
        refine AllReady.cons rfl (fun K hK => ?_) ?_
        · go_simp
          first | (refine hK _ _ ?_; clear hK K) | skip
          refine wpAny_ready (rs := [9]) (by kernel_rfl) (by simp) ?_
          refine AllReady.cons rfl (fun K hK => ?_) ?_
          · go_simp
            first | (refine hK _ _ ?_; clear hK K) | skip
            refine wpAny_take (i := 10) (v := .agg (startCells n0 (m1 : Int) (m2 : Int) (.slice (some ⟨(w.heap.size + 3), 0, none⟩) m1 m1) (.slice (some ⟨(w.heap.size + 2), 0, none⟩) m2 m2) (w.heap.size + 4)).toArray) rfl (by kernel_rfl) (by kernel_rfl) (by kernel_rfl) (fun _ _ _ h => h) (Or.inl ⟨by rfl, by (intro w; go_simp; first | done | with_reducible rfl | rfl)⟩) ?_
            refine wpAny_ready (rs := [11]) (by kernel_rfl) (by simp) ?_
            refine AllReady.cons rfl (fun K hK => ?_) AllReady.nil
            rw [if_pos (by simp [Region.wanted])]
            refine wp_store_row 30 _ _ rfl w.heap.size (startCells n0 (m1 : Int) (m2 : Int) (.slice (some ⟨(w.heap.size + 3), 0, none⟩) m1 m1) (.slice (some ⟨(w.heap.size + 2), 0, none⟩) m2 m2) (w.heap.size + 4)).toArray rfl rfl 30 zeroCells.toArray (show Row _ w.heap.size 30 zeroCells from by (repeat (first | exact RZ0.out | exact Row.newAt _ _ _ _ (by simp) | refine Row.alloc ?_ _ | refine Row.drewN ?_ _ | refine Row.drew ?_))) (by kernel_rfl) (startCells_size _ _ _ _ _ _) (startCells_one _ _ _ _ _ _ _ _ _ _) ?_
            refine hK _ _ ?_
            clear hK K
            refine wpAny_take (i := 12) (v := .bool true) rfl (by kernel_rfl) (by kernel_rfl) (by kernel_rfl) (fun _ _ _ h => h) (Or.inl ⟨by rfl, by (intro w; go_simp; first | done | with_reducible rfl | rfl)⟩) ?_
            refine wpAny_done (by kernel_rfl) ?_ _
            go_wp2
            refine bodyPost_ret (ret_row_tmp rfl _ _ w.heap.size 30 (startCells n0 (m1 : Int) (m2 : Int) (.slice (some ⟨(w.heap.size + 3), 0, none⟩) m1 m1) (.slice (some ⟨(w.heap.size + 2), 0, none⟩) m2 m2) (w.heap.size + 4)) (Row.setRow' (cs := zeroCells) (by (repeat (first | exact RZ0.out | exact Row.newAt _ _ _ _ (by simp) | refine Row.alloc ?_ _ | refine Row.drewN ?_ _ | refine Row.drew ?_))) (startCells n0 (m1 : Int) (m2 : Int) (.slice (some ⟨(w.heap.size + 3), 0, none⟩) m1 m1) (.slice (some ⟨(w.heap.size + 2), 0, none⟩) m2 m2) (w.heap.size + 4))) _ (.bool true) rfl rfl Try.underlying30 rfl (by kernel_rfl)) rfl ?_
            refine start_closeW HK.out (w.heap.size + 3) (w.heap.size + 2) (w.heap.size + 4) (by (repeat (first | exact RZ0.out | exact Row.newAt _ _ _ _ (by simp) | refine Row.alloc ?_ _ | refine Row.drewN ?_ _ | refine Row.drew ?_))) (by (repeat (first | exact RZ0.out | exact Row.newAt _ _ _ _ (by simp) | refine Row.alloc ?_ _ | refine Row.drewN ?_ _ | refine Row.drew ?_))) (by (repeat (first | exact RZ0.out | exact Row.newAt _ _ _ _ (by simp) | refine Row.alloc ?_ _ | refine Row.drewN ?_ _ | refine Row.drew ?_))) (by omega) (by omega) (by omega) (by omega) (by omega) (by omega) ?_
            (repeat (first | exact HB0.out | refine Below.alloc ?_ (by simp; try omega) _ | refine below_drewN ?_ _ | refine Below.drew ?_))
          exact AllReady.nil
        refine AllReady.cons rfl (fun K hK => ?_) ?_
        · go_simp
          first | (refine hK _ _ ?_; clear hK K) | skip
          refine wpAny_ready (rs := [5]) (by kernel_rfl) (by simp) ?_
          refine AllReady.cons rfl (fun K hK => ?_) ?_
          · go_simp
            first | (refine hK _ _ ?_; clear hK K) | skip
            refine wpAny_take (i := 10) (v := .agg (startCells n0 (m1 : Int) (m2 : Int) (.slice (some ⟨(w.heap.size + 4), 0, none⟩) m1 m1) (.slice (some ⟨(w.heap.size + 2), 0, none⟩) m2 m2) (w.heap.size + 3)).toArray) rfl (by kernel_rfl) (by kernel_rfl) (by kernel_rfl) (fun _ _ _ h => h) (Or.inl ⟨by rfl, by (intro w; go_simp; first | done | with_reducible rfl | rfl)⟩) ?_
            refine wpAny_ready (rs := [11]) (by kernel_rfl) (by simp) ?_
            refine AllReady.cons rfl (fun K hK => ?_) AllReady.nil
            rw [if_pos (by simp [Region.wanted])]
            refine wp_store_row 30 _ _ rfl w.heap.size (startCells n0 (m1 : Int) (m2 : Int) (.slice (some ⟨(w.heap.size + 4), 0, none⟩) m1 m1) (.slice (some ⟨(w.heap.size + 2), 0, none⟩) m2 m2) (w.heap.size + 3)).toArray rfl rfl 30 zeroCells.toArray (show Row _ w.heap.size 30 zeroCells from by (repeat (first | exact RZ0.out | exact Row.newAt _ _ _ _ (by simp) | refine Row.alloc ?_ _ | refine Row.drewN ?_ _ | refine Row.drew ?_))) (by kernel_rfl) (startCells_size _ _ _ _ _ _) (startCells_one _ _ _ _ _ _ _ _ _ _) ?_
            refine hK _ _ ?_
            clear hK K
            refine wpAny_take (i := 12) (v := .bool true) rfl (by kernel_rfl) (by kernel_rfl) (by kernel_rfl) (fun _ _ _ h => h) (Or.inl ⟨by rfl, by (intro w; go_simp; first | done | with_reducible rfl | rfl)⟩) ?_
            refine wpAny_done (by kernel_rfl) ?_ _
            go_wp2
            refine bodyPost_ret (ret_row_tmp rfl _ _ w.heap.size 30 (startCells n0 (m1 : Int) (m2 : Int) (.slice (some ⟨(w.heap.size + 4), 0, none⟩) m1 m1) (.slice (some ⟨(w.heap.size + 2), 0, none⟩) m2 m2) (w.heap.size + 3)) (Row.setRow' (cs := zeroCells) (by (repeat (first | exact RZ0.out | exact Row.newAt _ _ _ _ (by simp) | refine Row.alloc ?_ _ | refine Row.drewN ?_ _ | refine Row.drew ?_))) (startCells n0 (m1 : Int) (m2 : Int) (.slice (some ⟨(w.heap.size + 4), 0, none⟩) m1 m1) (.slice (some ⟨(w.heap.size + 2), 0, none⟩) m2 m2) (w.heap.size + 3))) _ (.bool true) rfl rfl Try.underlying30 rfl (by kernel_rfl)) rfl ?_
            refine start_closeW HK.out (w.heap.size + 4) (w.heap.size + 2) (w.heap.size + 3) (by (repeat (first | exact RZ0.out | exact Row.newAt _ _ _ _ (by simp) | refine Row.alloc ?_ _ | refine Row.drewN ?_ _ | refine Row.drew ?_))) (by (repeat (first | exact RZ0.out | exact Row.newAt _ _ _ _ (by simp) | refine Row.alloc ?_ _ | refine Row.drewN ?_ _ | refine Row.drew ?_))) (by (repeat (first | exact RZ0.out | exact Row.newAt _ _ _ _ (by simp) | refine Row.alloc ?_ _ | refine Row.drewN ?_ _ | refine Row.drew ?_))) (by omega) (by omega) (by omega) (by omega) (by omega) (by omega) ?_
            (repeat (first | exact HB0.out | refine Below.alloc ?_ (by simp; try omega) _ | refine below_drewN ?_ _ | refine Below.drew ?_))
          exact AllReady.nil
        exact AllReady.nil
      refine AllReady.cons rfl (fun K hK => ?_) ?_
      · go_simp
        first | (refine hK _ _ ?_; clear hK K) | skip
        refine wpAny_ready (rs := [5, 8]) (by kernel_rfl) (by simp) ?_
        refine AllReady.cons rfl (fun K hK => ?_) ?_
        · go_simp
          first | (refine hK _ _ ?_; clear hK K) | skip
          refine wpAny_ready (rs := [8]) (by kernel_rfl) (by simp) ?_
          refine AllReady.cons rfl (fun K hK => ?_) ?_
          · go_simp
            go_at_call 69
            refine (repeat_any m2 (by omega) (by omega) _ (-1) _ (by go_simp)).mono ?_
            rintro e w2 ⟨rfl, q, rfl⟩
            try go_simp
            first | (refine hK _ _ ?_; clear hK K) | skip
            refine wpAny_take (i := 10) (v := .agg (startCells n0 (m1 : Int) (m2 : Int) (.slice (some ⟨(w.heap.size + 3), 0, none⟩) m1 m1) (.slice (some ⟨(w.heap.size + 4), 0, none⟩) m2 m2) (w.heap.size + 2)).toArray) rfl (by kernel_rfl) (by kernel_rfl) (by kernel_rfl) (fun _ _ _ h => h) (Or.inl ⟨by rfl, by (intro w; go_simp; first | done | with_reducible rfl | rfl)⟩) ?_
            refine wpAny_ready (rs := [11]) (by kernel_rfl) (by simp) ?_
            refine AllReady.cons rfl (fun K hK => ?_) AllReady.nil
            rw [if_pos (by simp [Region.wanted])]
            refine wp_store_row 30 _ _ rfl w.heap.size (startCells n0 (m1 : Int) (m2 : Int) (.slice (some ⟨(w.heap.size + 3), 0, none⟩) m1 m1) (.slice (some ⟨(w.heap.size + 4), 0, none⟩) m2 m2) (w.heap.size + 2)).toArray rfl rfl 30 zeroCells.toArray (show Row _ w.heap.size 30 zeroCells from by (repeat (first | exact RZ0.out | exact Row.newAt _ _ _ _ (by simp) | refine Row.alloc ?_ _ | refine Row.drewN ?_ _ | refine Row.drew ?_))) (by kernel_rfl) (startCells_size _ _ _ _ _ _) (startCells_one _ _ _ _ _ _ _ _ _ _) ?_
            refine hK _ _ ?_
            clear hK K
            refine wpAny_take (i := 12) (v := .bool true) rfl (by kernel_rfl) (by kernel_rfl) (by kernel_rfl) (fun _ _ _ h => h) (Or.inl ⟨by rfl, by (intro w; go_simp; first | done | with_reducible rfl | rfl)⟩) ?_
            refine wpAny_done (by kernel_rfl) ?_ _
            go_wp2
            refine bodyPost_ret (ret_row_tmp rfl _ _ w.heap.size 30 (startCells n0 (m1 : Int) (m2 : Int) (.slice (some ⟨(w.heap.size + 3), 0, none⟩) m1 m1) (.slice (some ⟨(w.heap.size + 4), 0, none⟩) m2 m2) (w.heap.size + 2)) (Row.setRow' (cs := zeroCells) (by (repeat (first | exact RZ0.out | exact Row.newAt _ _ _ _ (by simp) | refine Row.alloc ?_ _ | refine Row.drewN ?_ _ | refine Row.drew ?_))) (startCells n0 (m1 : Int) (m2 : Int) (.slice (some ⟨(w.heap.size + 3), 0, none⟩) m1 m1) (.slice (some ⟨(w.heap.size + 4), 0, none⟩) m2 m2) (w.heap.size + 2))) _ (.bool true) rfl rfl Try.underlying30 rfl (by kernel_rfl)) rfl ?_
            refine start_closeW HK.out (w.heap.size + 3) (w.heap.size + 4) (w.heap.size + 2) (by (repeat (first | exact RZ0.out | exact Row.newAt _ _ _ _ (by simp) | refine Row.alloc ?_ _ | refine Row.drewN ?_ _ | refine Row.drew ?_))) (by (repeat (first | exact RZ0.out | exact Row.newAt _ _ _ _ (by simp) | refine Row.alloc ?_ _ | refine Row.drewN ?_ _ | refine Row.drew ?_))) (by (repeat (first | exact RZ0.out | exact Row.newAt _ _ _ _ (by simp) | refine Row.alloc ?_ _ | refine Row.drewN ?_ _ | refine Row.drew ?_))) (by omega) (by omega) (by omega) (by omega) (by omega) (by omega) ?_
            (repeat (first | exact HB0.out | refine Below.alloc ?_ (by simp; try omega) _ | refine below_drewN ?_ _ | refine Below.drew ?_))
          exact AllReady.nil
        refine AllReady.cons rfl (fun K hK => ?_) ?_
        · go_simp
          go_at_call 69
          refine (repeat_any m2 (by omega) (by omega) _ (-1) _ (by go_simp)).mono ?_
          rintro e w2 ⟨rfl, q, rfl⟩
          try go_simp
          first | (refine hK _ _ ?_; clear hK K) | skip
          refine wpAny_ready (rs := [5]) (by kernel_rfl) (by simp) ?_
          refine AllReady.cons rfl (fun K hK => ?_) ?_
          · go_simp
            first | (refine hK _ _ ?_; clear hK K) | skip
            refine wpAny_take (i := 10) (v := .agg (startCells n0 (m1 : Int) (m2 : Int) (.slice (some ⟨(w.heap.size + 4), 0, none⟩) m1 m1) (.slice (some ⟨(w.heap.size + 3), 0, none⟩) m2 m2) (w.heap.size + 2)).toArray) rfl (by kernel_rfl) (by kernel_rfl) (by kernel_rfl) (fun _ _ _ h => h) (Or.inl ⟨by rfl, by (intro w; go_simp; first | done | with_reducible rfl | rfl)⟩) ?_
            refine wpAny_ready (rs := [11]) (by kernel_rfl) (by simp) ?_
            refine AllReady.cons rfl (fun K hK => ?_) AllReady.nil
            rw [if_pos (by simp [Region.wanted])]
            refine wp_store_row 30 _ _ rfl w.heap.size (startCells n0 (m1 : Int) (m2 : Int) (.slice (some ⟨(w.heap.size + 4), 0, none⟩) m1 m1) (.slice (some ⟨(w.heap.size + 3), 0, none⟩) m2 m2) (w.heap.size + 2)).toArray rfl rfl 30 zeroCells.toArray (show Row _ w.heap.size 30 zeroCells from by (repeat (first | exact RZ0.out | exact Row.newAt _ _ _ _ (by simp) | refine Row.alloc ?_ _ | refine Row.drewN ?_ _ | refine Row.drew ?_))) (by kernel_rfl) (startCells_size _ _ _ _ _ _) (startCells_one _ _ _ _ _ _ _ _ _ _) ?_
            refine hK _ _ ?_
            clear hK K
            refine wpAny_take (i := 12) (v := .bool true) rfl (by kernel_rfl) (by kernel_rfl) (by kernel_rfl) (fun _ _ _ h => h) (Or.inl ⟨by rfl, by (intro w; go_simp; first | done | with_reducible rfl | rfl)⟩) ?_
            refine wpAny_done (by kernel_rfl) ?_ _
            go_wp2
            refine bodyPost_ret (ret_row_tmp rfl _ _ w.heap.size 30 (startCells n0 (m1 : Int) (m2 : Int) (.slice (some ⟨(w.heap.size + 4), 0, none⟩) m1 m1) (.slice (some ⟨(w.heap.size + 3), 0, none⟩) m2 m2) (w.heap.size + 2)) (Row.setRow' (cs := zeroCells) (by (repeat (first | exact RZ0.out | exact Row.newAt _ _ _ _ (by simp) | refine Row.alloc ?_ _ | refine Row.drewN ?_ _ | refine Row.drew ?_))) (startCells n0 (m1 : Int) (m2 : Int) (.slice (some ⟨(w.heap.size + 4), 0, none⟩) m1 m1) (.slice (some ⟨(w.heap.size + 3), 0, none⟩) m2 m2) (w.heap.size + 2))) _ (.bool true) rfl rfl Try.underlying30 rfl (by kernel_rfl)) rfl ?_
            refine start_closeW HK.out (w.heap.size + 4) (w.heap.size + 3) (w.heap.size + 2) (by (repeat (first | exact RZ0.out | exact Row.newAt _ _ _ _ (by simp) | refine Row.alloc ?_ _ | refine Row.drewN ?_ _ | refine Row.drew ?_))) (by (repeat (first | exact RZ0.out | exact Row.newAt _ _ _ _ (by simp) | refine Row.alloc ?_ _ | refine Row.drewN ?_ _ | refine Row.drew ?_))) (by (repeat (first | exact RZ0.out | exact Row.newAt _ _ _ _ (by simp) | refine Row.alloc ?_ _ | refine Row.drewN ?_ _ | refine Row.drew ?_))) (by omega) (by omega) (by omega) (by omega) (by omega) (by omega) ?_
            (repeat (first | exact HB0.out | refine Below.alloc ?_ (by simp; try omega) _ | refine below_drewN ?_ _ | refine Below.drew ?_))
          exact AllReady.nil
        exact AllReady.nil
      exact AllReady.nil
    refine AllReady.cons rfl (fun K hK => ?_) ?_
    · go_simp
      first | (refine hK _ _ ?_; clear hK K) | skip
      refine wpAny_ready (rs := [5, 6]) (by kernel_rfl) (by simp) ?_
      refine AllReady.cons rfl (fun K hK => ?_) ?_
      · go_simp
        first | (refine hK _ _ ?_; clear hK K) | skip
        refine wpAny_ready (rs := [6]) (by kernel_rfl) (by simp) ?_
        refine AllReady.cons rfl (fun K hK => ?_) ?_
        · go_simp
          first | (refine hK _ _ ?_; clear hK K) | skip
          refine wpAny_ready (rs := [8]) (by kernel_rfl) (by simp) ?_
          refine AllReady.cons rfl (fun K hK => ?_) ?_
          · go_simp
            go_at_call 69
            refine (repeat_any m2 (by omega) (by omega) _ (-1) _ (by go_simp)).mono ?_
            rintro e w2 ⟨rfl, q, rfl⟩
            try go_simp
            first | (refine hK _ _ ?_; clear hK K) | skip
            refine wpAny_take (i := 10) (v := .agg (startCells n0 (m1 : Int) (m2 : Int) (.slice (some ⟨(w.heap.size + 2), 0, none⟩) m1 m1) (.slice (some ⟨(w.heap.size + 4), 0, none⟩) m2 m2) (w.heap.size + 1)).toArray) rfl (by kernel_rfl) (by kernel_rfl) (by kernel_rfl) (fun _ _ _ h => h) (Or.inl ⟨by rfl, by (intro w; go_simp; first | done | with_reducible rfl | rfl)⟩) ?_
            refine wpAny_ready (rs := [11]) (by kernel_rfl) (by simp) ?_
            refine AllReady.cons rfl (fun K hK => ?_) AllReady.nil
            rw [if_pos (by simp [Region.wanted])]
            refine wp_store_row 30 _ _ rfl w.heap.size (startCells n0 (m1 : Int) (m2 : Int) (.slice (some ⟨(w.heap.size + 2), 0, none⟩) m1 m1) (.slice (some ⟨(w.heap.size + 4), 0, none⟩) m2 m2) (w.heap.size + 1)).toArray rfl rfl 30 zeroCells.toArray (show Row _ w.heap.size 30 zeroCells from by (repeat (first | exact RZ0.out | exact Row.newAt _ _ _ _ (by simp) | refine Row.alloc ?_ _ | refine Row.drewN ?_ _ | refine Row.drew ?_))) (by kernel_rfl) (startCells_size _ _ _ _ _ _) (startCells_one _ _ _ _ _ _ _ _ _ _) ?_
            refine hK _ _ ?_
            clear hK K
            refine wpAny_take (i := 12) (v := .bool true) rfl (by kernel_rfl) (by kernel_rfl) (by kernel_rfl) (fun _ _ _ h => h) (Or.inl ⟨by rfl, by (intro w; go_simp; first | done | with_reducible rfl | rfl)⟩) ?_
            refine wpAny_done (by kernel_rfl) ?_ _
            go_wp2
            refine bodyPost_ret (ret_row_tmp rfl _ _ w.heap.size 30 (startCells n0 (m1 : Int) (m2 : Int) (.slice (some ⟨(w.heap.size + 2), 0, none⟩) m1 m1) (.slice (some ⟨(w.heap.size + 4), 0, none⟩) m2 m2) (w.heap.size + 1)) (Row.setRow' (cs := zeroCells) (by (repeat (first | exact RZ0.out | exact Row.newAt _ _ _ _ (by simp) | refine Row.alloc ?_ _ | refine Row.drewN ?_ _ | refine Row.drew ?_))) (startCells n0 (m1 : Int) (m2 : Int) (.slice (some ⟨(w.heap.size + 2), 0, none⟩) m1 m1) (.slice (some ⟨(w.heap.size + 4), 0, none⟩) m2 m2) (w.heap.size + 1))) _ (.bool true) rfl rfl Try.underlying30 rfl (by kernel_rfl)) rfl ?_
            refine start_closeW HK.out (w.heap.size + 2) (w.heap.size + 4) (w.heap.size + 1) (by (repeat (first | exact RZ0.out | exact Row.newAt _ _ _ _ (by simp) | refine Row.alloc ?_ _ | refine Row.drewN ?_ _ | refine Row.drew ?_))) (by (repeat (first | exact RZ0.out | exact Row.newAt _ _ _ _ (by simp) | refine Row.alloc ?_ _ | refine Row.drewN ?_ _ | refine Row.drew ?_))) (by (repeat (first | exact RZ0.out | exact Row.newAt _ _ _ _ (by simp) | refine Row.alloc ?_ _ | refine Row.drewN ?_ _ | refine Row.drew ?_))) (by omega) (by omega) (by omega) (by omega) (by omega) (by omega) ?_
            (repeat (first | exact HB0.out | refine Below.alloc ?_ (by simp; try omega) _ | refine below_drewN ?_ _ | refine Below.drew ?_))
          exact AllReady.nil
        exact AllReady.nil
      refine AllReady.cons rfl (fun K hK => ?_) ?_
      · go_simp
        first | (refine hK _ _ ?_; clear hK K) | skip
        refine wpAny_ready (rs := [5, 8]) (by kernel_rfl) (by simp) ?_
        refine AllReady.cons rfl (fun K hK => ?_) ?_
        · go_simp
          first | (refine hK _ _ ?_; clear hK K) | skip
          refine wpAny_ready (rs := [8]) (by kernel_rfl) (by simp) ?_
          refine AllReady.cons rfl (fun K hK => ?_) ?_
          · go_simp
            go_at_call 69
            refine (repeat_any m2 (by omega) (by omega) _ (-1) _ (by go_simp)).mono ?_
            rintro e w2 ⟨rfl, q, rfl⟩
            try go_simp
            first | (refine hK _ _ ?_; clear hK K) | skip
            refine wpAny_take (i := 10) (v := .agg (startCells n0 (m1 : Int) (m2 : Int) (.slice (some ⟨(w.heap.size + 3), 0, none⟩) m1 m1) (.slice (some ⟨(w.heap.size + 4), 0, none⟩) m2 m2) (w.heap.size + 1)).toArray) rfl (by kernel_rfl) (by kernel_rfl) (by kernel_rfl) (fun _ _ _ h => h) (Or.inl ⟨by rfl, by (intro w; go_simp; first | done | with_reducible rfl | rfl)⟩) ?_
            refine wpAny_ready (rs := [11]) (by kernel_rfl) (by simp) ?_
            refine AllReady.cons rfl (fun K hK => ?_) AllReady.nil
            rw [if_pos (by simp [Region.wanted])]
            refine wp_store_row 30 _ _ rfl w.heap.size (startCells n0 (m1 : Int) (m2 : Int) (.slice (some ⟨(w.heap.size + 3), 0, none⟩) m1 m1) (.slice (some ⟨(w.heap.size + 4), 0, none⟩) m2 m2) (w.heap.size + 1)).toArray rfl rfl 30 zeroCells.toArray (show Row _ w.heap.size 30 zeroCells from by (repeat (first | exact RZ0.out | exact Row.newAt _ _ _ _ (by simp) | refine Row.alloc ?_ _ | refine Row.drewN ?_ _ | refine Row.drew ?_))) (by kernel_rfl) (startCells_size _ _ _ _ _ _) (startCells_one _ _ _ _ _ _ _ _ _ _) ?_
            refine hK _ _ ?_
            clear hK K
            refine wpAny_take (i := 12) (v := .bool true) rfl (by kernel_rfl) (by kernel_rfl) (by kernel_rfl) (fun _ _ _ h => h) (Or.inl ⟨by rfl, by (intro w; go_simp; first | done | with_reducible rfl | rfl)⟩) ?_
            refine wpAny_done (by kernel_rfl) ?_ _
            go_wp2
            refine bodyPost_ret (ret_row_tmp rfl _ _ w.heap.size 30 (startCells n0 (m1 : Int) (m2 : Int) (.slice (some ⟨(w.heap.size + 3), 0, none⟩) m1 m1) (.slice (some ⟨(w.heap.size + 4), 0, none⟩) m2 m2) (w.heap.size + 1)) (Row.setRow' (cs := zeroCells) (by (repeat (first | exact RZ0.out | exact Row.newAt _ _ _ _ (by simp) | refine Row.alloc ?_ _ | refine Row.drewN ?_ _ | refine Row.drew ?_))) (startCells n0 (m1 : Int) (m2 : Int) (.slice (some ⟨(w.heap.size + 3), 0, none⟩) m1 m1) (.slice (some ⟨(w.heap.size + 4), 0, none⟩) m2 m2) (w.heap.size + 1))) _ (.bool true) rfl rfl Try.underlying30 rfl (by kernel_rfl)) rfl ?_
            refine start_closeW HK.out (w.heap.size + 3) (w.heap.size + 4) (w.heap.size + 1) (by (repeat (first | exact RZ0.out | exact Row.newAt _ _ _ _ (by simp) | refine Row.alloc ?_ _ | refine Row.drewN ?_ _ | refine Row.drew ?_))) (by (repeat (first | exact RZ0.out | exact Row.newAt _ _ _ _ (by simp) | refine Row.alloc ?_ _ | refine Row.drewN ?_ _ | refine Row.drew ?_))) (by (repeat (first | exact RZ0.out | exact Row.newAt _ _ _ _ (by simp) | refine Row.alloc ?_ _ | refine Row.drewN ?_ _ | refine Row.drew ?_))) (by omega) (by omega) (by omega) (by omega) (by omega) (by omega) ?_
            (repeat (first | exact HB0.out | refine Below.alloc ?_ (by simp; try omega) _ | refine below_drewN ?_ _ | refine Below.drew ?_))
          exact AllReady.nil
        refine AllReady.cons rfl (fun K hK => ?_) ?_
        · go_simp
          go_at_call 69
          refine (repeat_any m2 (by omega) (by omega) _ (-1) _ (by go_simp)).mono ?_
          rintro e w2 ⟨rfl, q, rfl⟩
          try go_simp
          first | (refine hK _ _ ?_; clear hK K) | skip
          refine wpAny_ready (rs := [5]) (by kernel_rfl) (by simp) ?_
          refine AllReady.cons rfl (fun K hK => ?_) ?_
          · go_simp
            first | (refine hK _ _ ?_; clear hK K) | skip
            refine wpAny_take (i := 10) (v := .agg (startCells n0 (m1 : Int) (m2 : Int) (.slice (some ⟨(w.heap.size + 4), 0, none⟩) m1 m1) (.slice (some ⟨(w.heap.size + 3), 0, none⟩) m2 m2) (w.heap.size + 1)).toArray) rfl (by kernel_rfl) (by kernel_rfl) (by kernel_rfl) (fun _ _ _ h => h) (Or.inl ⟨by rfl, by (intro w; go_simp; first | done | with_reducible rfl | rfl)⟩) ?_
            refine wpAny_ready (rs := [11]) (by kernel_rfl) (by simp) ?_
            refine AllReady.cons rfl (fun K hK => ?_) AllReady.nil
            rw [if_pos (by simp [Region.wanted])]
            refine wp_store_row 30 _ _ rfl w.heap.size (startCells n0 (m1 : Int) (m2 : Int) (.slice (some ⟨(w.heap.size + 4), 0, none⟩) m1 m1) (.slice (some ⟨(w.heap.size + 3), 0, none⟩) m2 m2) (w.heap.size + 1)).toArray rfl rfl 30 zeroCells.toArray (show Row _ w.heap.size 30 zeroCells from by (repeat (first | exact RZ0.out | exact Row.newAt _ _ _ _ (by simp) | refine Row.alloc ?_ _ | refine Row.drewN ?_ _ | refine Row.drew ?_))) (by kernel_rfl) (startCells_size _ _ _ _ _ _) (startCells_one _ _ _ _ _ _ _ _ _ _) ?_
            refine hK _ _ ?_
            clear hK K
            refine wpAny_take (i := 12) (v := .bool true) rfl (by kernel_rfl) (by kernel_rfl) (by kernel_rfl) (fun _ _ _ h => h) (Or.inl ⟨by rfl, by (intro w; go_simp; first | done | with_reducible rfl | rfl)⟩) ?_
            refine wpAny_done (by kernel_rfl) ?_ _
            go_wp2
            refine bodyPost_ret (ret_row_tmp rfl _ _ w.heap.size 30 (startCells n0 (m1 : Int) (m2 : Int) (.slice (some ⟨(w.heap.size + 4), 0, none⟩) m1 m1) (.slice (some ⟨(w.heap.size + 3), 0, none⟩) m2 m2) (w.heap.size + 1)) (Row.setRow' (cs := zeroCells) (by (repeat (first | exact RZ0.out | exact Row.newAt _ _ _ _ (by simp) | refine Row.alloc ?_ _ | refine Row.drewN ?_ _ | refine Row.drew ?_))) (startCells n0 (m1 : Int) (m2 : Int) (.slice (some ⟨(w.heap.size + 4), 0, none⟩) m1 m1) (.slice (some ⟨(w.heap.size + 3), 0, none⟩) m2 m2) (w.heap.size + 1))) _ (.bool true) rfl rfl Try.underlying30 rfl (by kernel_rfl)) rfl ?_
            refine start_closeW HK.out (w.heap.size + 4) (w.heap.size + 3) (w.heap.size + 1) (by (repeat (first | exact RZ0.out | exact Row.newAt _ _ _ _ (by simp) | refine Row.alloc ?_ _ | refine Row.drewN ?_ _ | refine Row.drew ?_))) (by (repeat (first | exact RZ0.out | exact Row.newAt _ _ _ _ (by simp) | refine Row.alloc ?_ _ | refine Row.drewN ?_ _ | refine Row.drew ?_))) (by (repeat (first | exact RZ0.out | exact Row.newAt _ _ _ _ (by simp) | refine Row.alloc ?_ _ | refine Row.drewN ?_ _ | refine Row.drew ?_))) (by omega) (by omega) (by omega) (by omega) (by omega) (by omega) ?_
            (repeat (first | exact HB0.out | refine Below.alloc ?_ (by simp; try omega) _ | refine below_drewN ?_ _ | refine Below.drew ?_))
          exact AllReady.nil
        exact AllReady.nil
      exact AllReady.nil
    exact AllReady.nil
end Go.Proofs.Ytpkjjfnfolbcoaa
