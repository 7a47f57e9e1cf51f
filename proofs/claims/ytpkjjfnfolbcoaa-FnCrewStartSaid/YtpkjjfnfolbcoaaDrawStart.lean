/-
  The draw of a crew's beginning.
-/
import Derived.Test.YtpkjjfnfolbcoaaDraw
import Derived.Test.YtpkjjfnfolbcoaaStartLaw
import Derived.Deep.RegionHeld
import Derived.OwnWalk
set_option linter.unusedVariables false
set_option linter.unusedSimpArgs false
namespace Go.Proofs.Ytpkjjfnfolbcoaa
open Go.ChangeShapes Go.WideShapes Go.ChangeAt Go.RowKit

def pick3 (a b c : Int) (r : Nat) : Int := if r = 0 then a else if r = 1 then b else c
theorem pick3_bd {a b c : Int} (r : Nat) (ha : -1 ≤ a ∧ a ≤ 100) (hb : -1 ≤ b ∧ b ≤ 100) (hc : -1 ≤ c ∧ c ≤ 100) : -1 ≤ pick3 a b c r ∧ pick3 a b c r ≤ 100 := by
  unfold pick3
  repeat' split
  all_goals omega
theorem pick3_at (a b c : Int) (r : Nat) (h : r < 3) : ([.int .i64 a, .int .i64 b, .int .i64 c] : List Value)[r]? = some (.int .i64 (pick3 a b c r)) := by
  obtain rfl | rfl | rfl : r = 0 ∨ r = 1 ∨ r = 2 := by omega
  all_goals rfl
theorem wpAnyH_weaken {P : Program} {md : Region.Mode} {ops : Array Oper} {Q : Exit → Act → World → Prop} {S S' : World → Prop} (h : ∀ w, S' w → S w) : ∀ (fuel : Nat) (listed : Array Bool) (a : Act) (w : World), wpAnyH P md ops Q S' fuel listed a w → wpAnyH P md ops Q S fuel listed a w
  | 0, _, _, _, hw => hw
  | fuel + 1, _, _, _, hw => ⟨hw.1, fun i hi => wpOp_mono (fun a' w' h' => ⟨h w' h'.1, wpAnyH_weaken h fuel _ a' w' h'.2⟩) (hw.2 i hi)⟩
def StartDraw (w : World) (e : Ending) (w' : World) : Prop := ∃ a b c : Int, e = .returned (.tuple #[.int .i64 a, .int .i64 b, .int .i64 c]) ∧ (-1 ≤ a ∧ a ≤ 100) ∧ (-1 ≤ b ∧ b ≤ 100) ∧ (-1 ≤ c ∧ c ≤ 100) ∧ Below w.heap.size w w'
set_option maxRecDepth 100000 in
set_option maxHeartbeats 8000000 in
theorem drawCrewStart_any (b : List UInt8) (A : Option Addr) (n c : Nat) (fp : List Nat) (w : World) (ho : Ow w (.s 1 b.length (b.flatMap byteC)) (.slice A n c) fp) (hf : Lt fp w.heap.size) (hsz : b.length ≤ 1048576) :
    Calls Try.prog 21 #[.slice A n c] w (StartDraw w) := by
  have HO := hide (open_any b A n c fp w ho hf hsz)
  clear ho
  go_enter Try.func21, Try.ntmps21
  go_wp2_with fail
  refine HO.out.mono ?_
  rintro e w2 ⟨L, rfl, hr, hb2⟩
  have HP := hide (pick_any hr (n := 6) (by omega) (by omega) (by omega))
  have HB2 := hide hb2
  clear hr hb2 HO
  go_wp2_with fail
  refine HP.out.mono ?_
  rintro e w3 ⟨r, rfl, hr6, h3, hg3⟩
  have HR := hide h3
  have HB := hide (HB2.out.trans (below_of_grown hg3 (Nat.le_refl _) HB2.out.size))
  clear HP HB2 h3 hg3
  by_cases e0 : r = 0
  · subst e0
    go_wp2_with fail
    refine wp_region_held_drew (S := fun W => Below w.heap.size w W) (by kernel_rfl) (below_drewN HB.out 1) (fun hb0 => ?_)
    have hr0 : RdD w3.drew w.heap.size L _ := HR.out.below (below_drewN (Below.refl _ _) 1)
    generalize w3.drew = w4 at *
    refine wpAnyH_take (i := 1) (v := .pointer (some ⟨w.heap.size, 0, none⟩)) rfl (by kernel_rfl) (by kernel_rfl) (by kernel_rfl) (fun _ _ _ h => h) (Or.inl ⟨by kernel_rfl, by (intro W hS; go_simp; first | done | with_reducible rfl | rfl)⟩) hb0 ?_
    (try simp only [Act.put, List.getElem_toArray, List.getElem_cons_zero, List.getElem_cons_succ, List.setIfInBounds_toArray, List.set_cons_zero, List.set_cons_succ])
    refine wpAnyH_take (i := 5) (v := .pointer (some ⟨w.heap.size, 0, none⟩)) rfl (by kernel_rfl) (by kernel_rfl) (by kernel_rfl) (fun _ _ _ h => h) (Or.inl ⟨by kernel_rfl, by (intro W hS; go_simp; first | done | with_reducible rfl | rfl)⟩) hb0 ?_
    (try simp only [Act.put, List.getElem_toArray, List.getElem_cons_zero, List.getElem_cons_succ, List.setIfInBounds_toArray, List.set_cons_zero, List.set_cons_succ])
    refine wpAnyH_take (i := 8) (v := .pointer (some ⟨w.heap.size, 0, none⟩)) rfl (by kernel_rfl) (by kernel_rfl) (by kernel_rfl) (fun _ _ _ h => h) (Or.inl ⟨by kernel_rfl, by (intro W hS; go_simp; first | done | with_reducible rfl | rfl)⟩) hb0 ?_
    (try simp only [Act.put, List.getElem_toArray, List.getElem_cons_zero, List.getElem_cons_succ, List.setIfInBounds_toArray, List.set_cons_zero, List.set_cons_succ])
    refine wpAnyH_ready (rs := [0, 2]) (by kernel_rfl) (by simp) ?_
    refine AllReadyH.cons rfl (fun K hK => ?_) ?_
    · go_simp
      have hb1 : Below w.heap.size w (w4.alloc (.cells #[.int .i64 (-1), .int .i64 60, .int .i64 61] 3)) := hb0.alloc hb0.size _
      have hr1 : RdD (w4.alloc (.cells #[.int .i64 (-1), .int .i64 60, .int .i64 61] 3)) w.heap.size L _ := hr0.below ((Below.refl _ _).alloc (Nat.le_refl _) _)
      refine hK.out _ _ hb1 (fun hHeld => ?_)
      clear hK K hHeld
      have hlb1 : w.heap.size < w4.heap.size := hr0.lt
      have hw01 : Row (w4.alloc (.cells #[.int .i64 (-1), .int .i64 60, .int .i64 61] 3)) w4.heap.size 3 [.int .i64 (-1), .int .i64 60, .int .i64 61] := Row.new _ _ _
      obtain ⟨blk, hblk⟩ : ∃ n, n = w4.heap.size := ⟨_, rfl⟩
      rw [← hblk] at hlb1 hw01
      try simp only [World.drew_heap_size] at hblk
      simp only [← hblk]
      refine wpAnyH_weaken (S' := fun W => Below w.heap.size w W ∧ Row W blk 3 [.int .i64 (-1), .int .i64 60, .int .i64 61]) (fun _ h => h.1) _ _ _ _ ?_
      generalize w4.alloc _ = v1 at *
      clear hblk
      refine wpAnyH_ready (rs := [2]) (by kernel_rfl) (by simp) ?_
      refine AllReadyH.cons rfl (fun K hK => ?_) AllReadyH.nil
      go_simp
      go_at_call 66
      refine (pick_any hr1 (n := 3) (by omega) (by omega) (by omega)).mono ?_
      rintro e v2 ⟨r1, rfl, hlt2, hr2, hg2⟩
      have hb2 := hb1.trans (below_of_grown hg2 (Nat.le_refl _) hb1.size)
      have hw2 := hw01.grown hg2 (fun e => by injection e with e; omega)
      try go_simp
      refine hK.out _ _ ⟨hb2, hw2⟩ (fun hHeld => ?_)
      clear hK K hHeld
      have ra3 : (r1 : Int) < 3 := by omega
      have rb3 : (0 : Int) ≤ (r1 : Int) := by omega
      refine' wpAnyH_take (i := 3) (v := _) rfl (by kernel_rfl) (by kernel_rfl) (by kernel_rfl) (fun _ _ _ h => h) (Or.inl ⟨by kernel_rfl, by (intro W hS; go_simp; first | done | with_reducible rfl | rfl)⟩) ⟨hb2, hw2⟩ ?_
      (try simp only [Act.put, List.getElem_toArray, List.getElem_cons_zero, List.getElem_cons_succ, List.setIfInBounds_toArray, List.set_cons_zero, List.set_cons_succ])
      refine wpAnyH_take (i := 4) (v := .int .i64 (pick3 (-1) 60 61 r1)) rfl (by kernel_rfl) (by kernel_rfl) (by kernel_rfl) (fun _ _ _ h => h) (Or.inl ⟨by kernel_rfl, by (intro W hS; have y := (hS.2.cell r1).trans (pick3_at _ _ _ r1 (by omega)); have yl := hS.2.lt; go_simp; first | done | with_reducible rfl | rfl)⟩) ⟨hb2, hw2⟩ ?_
      (try simp only [Act.put, List.getElem_toArray, List.getElem_cons_zero, List.getElem_cons_succ, List.setIfInBounds_toArray, List.set_cons_zero, List.set_cons_succ])
      refine wpAnyH_ready (rs := [6]) (by kernel_rfl) (by simp) ?_
      refine AllReadyH.cons rfl (fun K hK => ?_) AllReadyH.nil
      go_simp
      go_at_call 66
      refine (pick_any hr2 (n := 8) (by omega) (by omega) (by omega)).mono ?_
      rintro e v4 ⟨r2, rfl, hlt4, hr4, hg4⟩
      have hb4 := hb2.trans (below_of_grown hg4 (Nat.le_refl _) hb2.size)
      have hw4 := hw2.grown hg4 (fun e => by injection e with e; omega)
      try go_simp
      refine hK.out _ _ ⟨hb4, hw4⟩ (fun hHeld => ?_)
      clear hK K hHeld
      have ka5 : IntKind.i64.wrap (1 + (r2 : Int)) = 1 + (r2 : Int) := wrapI _ (by omega) (by omega)
      have kb5 : wrap64 (1 + (r2 : Int)) = 1 + (r2 : Int) := by unfold wrap64; omega
      refine wpAnyH_take (i := 7) (v := .int .i64 (1 + (r2 : Int))) rfl (by kernel_rfl) (by kernel_rfl) (by kernel_rfl) (fun _ _ _ h => h) (Or.inl ⟨by kernel_rfl, by (intro W hS; go_simp; first | done | with_reducible rfl | rfl)⟩) ⟨hb4, hw4⟩ ?_
      (try simp only [Act.put, List.getElem_toArray, List.getElem_cons_zero, List.getElem_cons_succ, List.setIfInBounds_toArray, List.set_cons_zero, List.set_cons_succ])
      refine wpAnyH_ready (rs := [9]) (by kernel_rfl) (by simp) ?_
      refine AllReadyH.cons rfl (fun K hK => ?_) AllReadyH.nil
      go_simp
      go_at_call 66
      refine (pick_any hr4 (n := 16) (by omega) (by omega) (by omega)).mono ?_
      rintro e v6 ⟨r3, rfl, hlt6, hr6, hg6⟩
      have hb6 := hb4.trans (below_of_grown hg6 (Nat.le_refl _) hb4.size)
      have hw6 := hw4.grown hg6 (fun e => by injection e with e; omega)
      try go_simp
      refine hK.out _ _ ⟨hb6, hw6⟩ (fun hHeld => ?_)
      clear hK K hHeld
      have ka7 : IntKind.i64.wrap (1 + (r3 : Int)) = 1 + (r3 : Int) := wrapI _ (by omega) (by omega)
      have kb7 : wrap64 (1 + (r3 : Int)) = 1 + (r3 : Int) := by unfold wrap64; omega
      refine wpAnyH_take (i := 10) (v := .int .i64 (1 + (r3 : Int))) rfl (by kernel_rfl) (by kernel_rfl) (by kernel_rfl) (fun _ _ _ h => h) (Or.inl ⟨by kernel_rfl, by (intro W hS; go_simp; first | done | with_reducible rfl | rfl)⟩) ⟨hb6, hw6⟩ ?_
      (try simp only [Act.put, List.getElem_toArray, List.getElem_cons_zero, List.getElem_cons_succ, List.setIfInBounds_toArray, List.set_cons_zero, List.set_cons_succ])
      refine wpAnyH_take (i := 11) (v := .int .i64 (pick3 (-1) 60 61 r1)) rfl (by kernel_rfl) (by kernel_rfl) (by kernel_rfl) (fun _ _ _ h => h) (Or.inl ⟨by kernel_rfl, by (intro W hS; go_simp; first | done | with_reducible rfl | rfl)⟩) ⟨hb6, hw6⟩ ?_
      (try simp only [Act.put, List.getElem_toArray, List.getElem_cons_zero, List.getElem_cons_succ, List.setIfInBounds_toArray, List.set_cons_zero, List.set_cons_succ])
      refine wpAnyH_take (i := 12) (v := .int .i64 (1 + (r2 : Int))) rfl (by kernel_rfl) (by kernel_rfl) (by kernel_rfl) (fun _ _ _ h => h) (Or.inl ⟨by kernel_rfl, by (intro W hS; go_simp; first | done | with_reducible rfl | rfl)⟩) ⟨hb6, hw6⟩ ?_
      (try simp only [Act.put, List.getElem_toArray, List.getElem_cons_zero, List.getElem_cons_succ, List.setIfInBounds_toArray, List.set_cons_zero, List.set_cons_succ])
      refine wpAnyH_take (i := 13) (v := .int .i64 (1 + (r3 : Int))) rfl (by kernel_rfl) (by kernel_rfl) (by kernel_rfl) (fun _ _ _ h => h) (Or.inl ⟨by kernel_rfl, by (intro W hS; go_simp; first | done | with_reducible rfl | rfl)⟩) ⟨hb6, hw6⟩ ?_
      (try simp only [Act.put, List.getElem_toArray, List.getElem_cons_zero, List.getElem_cons_succ, List.setIfInBounds_toArray, List.set_cons_zero, List.set_cons_succ])
      refine wpAnyH_done (by kernel_rfl) ?_ _
      go_wp2
      go_ret3
      exact ⟨(pick3 (-1) 60 61 r1), (1 + (r2 : Int)), (1 + (r3 : Int)), rfl, by first | omega | exact pick3_bd _ (by omega) (by omega) (by omega), by first | omega | exact pick3_bd _ (by omega) (by omega) (by omega), by first | omega | exact pick3_bd _ (by omega) (by omega) (by omega), hb6⟩
    refine AllReadyH.cons rfl (fun K hK => ?_) AllReadyH.nil
    · go_simp
      go_at_call 66
      refine (pick_any hr0 (n := 3) (by omega) (by omega) (by omega)).mono ?_
      rintro e v8 ⟨r1, rfl, hlt8, hr8, hg8⟩
      have hb8 := hb0.trans (below_of_grown hg8 (Nat.le_refl _) hb0.size)
      try go_simp
      refine hK.out _ _ hb8 (fun hHeld => ?_)
      clear hK K hHeld
      refine wpAnyH_ready (rs := [0, 6]) (by kernel_rfl) (by simp) ?_
      refine AllReadyH.cons rfl (fun K hK => ?_) ?_
      · go_simp
        have hb9 : Below w.heap.size w (v8.alloc (.cells #[.int .i64 (-1), .int .i64 60, .int .i64 61] 3)) := hb8.alloc hb8.size _
        have hr9 : RdD (v8.alloc (.cells #[.int .i64 (-1), .int .i64 60, .int .i64 61] 3)) w.heap.size L _ := hr8.below ((Below.refl _ _).alloc (Nat.le_refl _) _)
        refine hK.out _ _ hb9 (fun hHeld => ?_)
        clear hK K hHeld
        have hlb9 : w.heap.size < v8.heap.size := hr8.lt
        have hw09 : Row (v8.alloc (.cells #[.int .i64 (-1), .int .i64 60, .int .i64 61] 3)) v8.heap.size 3 [.int .i64 (-1), .int .i64 60, .int .i64 61] := Row.new _ _ _
        obtain ⟨blk, hblk⟩ : ∃ n, n = v8.heap.size := ⟨_, rfl⟩
        rw [← hblk] at hlb9 hw09
        try simp only [World.drew_heap_size] at hblk
        simp only [← hblk]
        refine wpAnyH_weaken (S' := fun W => Below w.heap.size w W ∧ Row W blk 3 [.int .i64 (-1), .int .i64 60, .int .i64 61]) (fun _ h => h.1) _ _ _ _ ?_
        generalize v8.alloc _ = v9 at *
        clear hblk
        have ra10 : (r1 : Int) < 3 := by omega
        have rb10 : (0 : Int) ≤ (r1 : Int) := by omega
        refine' wpAnyH_take (i := 3) (v := _) rfl (by kernel_rfl) (by kernel_rfl) (by kernel_rfl) (fun _ _ _ h => h) (Or.inl ⟨by kernel_rfl, by (intro W hS; go_simp; first | done | with_reducible rfl | rfl)⟩) ⟨hb9, hw09⟩ ?_
        (try simp only [Act.put, List.getElem_toArray, List.getElem_cons_zero, List.getElem_cons_succ, List.setIfInBounds_toArray, List.set_cons_zero, List.set_cons_succ])
        refine wpAnyH_take (i := 4) (v := .int .i64 (pick3 (-1) 60 61 r1)) rfl (by kernel_rfl) (by kernel_rfl) (by kernel_rfl) (fun _ _ _ h => h) (Or.inl ⟨by kernel_rfl, by (intro W hS; have y := (hS.2.cell r1).trans (pick3_at _ _ _ r1 (by omega)); have yl := hS.2.lt; go_simp; first | done | with_reducible rfl | rfl)⟩) ⟨hb9, hw09⟩ ?_
        (try simp only [Act.put, List.getElem_toArray, List.getElem_cons_zero, List.getElem_cons_succ, List.setIfInBounds_toArray, List.set_cons_zero, List.set_cons_succ])
        refine wpAnyH_ready (rs := [6]) (by kernel_rfl) (by simp) ?_
        refine AllReadyH.cons rfl (fun K hK => ?_) AllReadyH.nil
        go_simp
        go_at_call 66
        refine (pick_any hr9 (n := 8) (by omega) (by omega) (by omega)).mono ?_
        rintro e v11 ⟨r2, rfl, hlt11, hr11, hg11⟩
        have hb11 := hb9.trans (below_of_grown hg11 (Nat.le_refl _) hb9.size)
        have hw11 := hw09.grown hg11 (fun e => by injection e with e; omega)
        try go_simp
        refine hK.out _ _ ⟨hb11, hw11⟩ (fun hHeld => ?_)
        clear hK K hHeld
        have ka12 : IntKind.i64.wrap (1 + (r2 : Int)) = 1 + (r2 : Int) := wrapI _ (by omega) (by omega)
        have kb12 : wrap64 (1 + (r2 : Int)) = 1 + (r2 : Int) := by unfold wrap64; omega
        refine wpAnyH_take (i := 7) (v := .int .i64 (1 + (r2 : Int))) rfl (by kernel_rfl) (by kernel_rfl) (by kernel_rfl) (fun _ _ _ h => h) (Or.inl ⟨by kernel_rfl, by (intro W hS; go_simp; first | done | with_reducible rfl | rfl)⟩) ⟨hb11, hw11⟩ ?_
        (try simp only [Act.put, List.getElem_toArray, List.getElem_cons_zero, List.getElem_cons_succ, List.setIfInBounds_toArray, List.set_cons_zero, List.set_cons_succ])
        refine wpAnyH_ready (rs := [9]) (by kernel_rfl) (by simp) ?_
        refine AllReadyH.cons rfl (fun K hK => ?_) AllReadyH.nil
        go_simp
        go_at_call 66
        refine (pick_any hr11 (n := 16) (by omega) (by omega) (by omega)).mono ?_
        rintro e v13 ⟨r3, rfl, hlt13, hr13, hg13⟩
        have hb13 := hb11.trans (below_of_grown hg13 (Nat.le_refl _) hb11.size)
        have hw13 := hw11.grown hg13 (fun e => by injection e with e; omega)
        try go_simp
        refine hK.out _ _ ⟨hb13, hw13⟩ (fun hHeld => ?_)
        clear hK K hHeld
        have ka14 : IntKind.i64.wrap (1 + (r3 : Int)) = 1 + (r3 : Int) := wrapI _ (by omega) (by omega)
        have kb14 : wrap64 (1 + (r3 : Int)) = 1 + (r3 : Int) := by unfold wrap64; omega
        refine wpAnyH_take (i := 10) (v := .int .i64 (1 + (r3 : Int))) rfl (by kernel_rfl) (by kernel_rfl) (by kernel_rfl) (fun _ _ _ h => h) (Or.inl ⟨by kernel_rfl, by (intro W hS; go_simp; first | done | with_reducible rfl | rfl)⟩) ⟨hb13, hw13⟩ ?_
        (try simp only [Act.put, List.getElem_toArray, List.getElem_cons_zero, List.getElem_cons_succ, List.setIfInBounds_toArray, List.set_cons_zero, List.set_cons_succ])
        refine wpAnyH_take (i := 11) (v := .int .i64 (pick3 (-1) 60 61 r1)) rfl (by kernel_rfl) (by kernel_rfl) (by kernel_rfl) (fun _ _ _ h => h) (Or.inl ⟨by kernel_rfl, by (intro W hS; go_simp; first | done | with_reducible rfl | rfl)⟩) ⟨hb13, hw13⟩ ?_
        (try simp only [Act.put, List.getElem_toArray, List.getElem_cons_zero, List.getElem_cons_succ, List.setIfInBounds_toArray, List.set_cons_zero, List.set_cons_succ])
        refine wpAnyH_take (i := 12) (v := .int .i64 (1 + (r2 : Int))) rfl (by kernel_rfl) (by kernel_rfl) (by kernel_rfl) (fun _ _ _ h => h) (Or.inl ⟨by kernel_rfl, by (intro W hS; go_simp; first | done | with_reducible rfl | rfl)⟩) ⟨hb13, hw13⟩ ?_
        (try simp only [Act.put, List.getElem_toArray, List.getElem_cons_zero, List.getElem_cons_succ, List.setIfInBounds_toArray, List.set_cons_zero, List.set_cons_succ])
        refine wpAnyH_take (i := 13) (v := .int .i64 (1 + (r3 : Int))) rfl (by kernel_rfl) (by kernel_rfl) (by kernel_rfl) (fun _ _ _ h => h) (Or.inl ⟨by kernel_rfl, by (intro W hS; go_simp; first | done | with_reducible rfl | rfl)⟩) ⟨hb13, hw13⟩ ?_
        (try simp only [Act.put, List.getElem_toArray, List.getElem_cons_zero, List.getElem_cons_succ, List.setIfInBounds_toArray, List.set_cons_zero, List.set_cons_succ])
        refine wpAnyH_done (by kernel_rfl) ?_ _
        go_wp2
        go_ret3
        exact ⟨(pick3 (-1) 60 61 r1), (1 + (r2 : Int)), (1 + (r3 : Int)), rfl, by first | omega | exact pick3_bd _ (by omega) (by omega) (by omega), by first | omega | exact pick3_bd _ (by omega) (by omega) (by omega), by first | omega | exact pick3_bd _ (by omega) (by omega) (by omega), hb13⟩
      refine AllReadyH.cons rfl (fun K hK => ?_) AllReadyH.nil
      · go_simp
        go_at_call 66
        refine (pick_any hr8 (n := 8) (by omega) (by omega) (by omega)).mono ?_
        rintro e v15 ⟨r2, rfl, hlt15, hr15, hg15⟩
        have hb15 := hb8.trans (below_of_grown hg15 (Nat.le_refl _) hb8.size)
        try go_simp
        refine hK.out _ _ hb15 (fun hHeld => ?_)
        clear hK K hHeld
        have ka16 : IntKind.i64.wrap (1 + (r2 : Int)) = 1 + (r2 : Int) := wrapI _ (by omega) (by omega)
        have kb16 : wrap64 (1 + (r2 : Int)) = 1 + (r2 : Int) := by unfold wrap64; omega
        refine wpAnyH_take (i := 7) (v := .int .i64 (1 + (r2 : Int))) rfl (by kernel_rfl) (by kernel_rfl) (by kernel_rfl) (fun _ _ _ h => h) (Or.inl ⟨by kernel_rfl, by (intro W hS; go_simp; first | done | with_reducible rfl | rfl)⟩) hb15 ?_
        (try simp only [Act.put, List.getElem_toArray, List.getElem_cons_zero, List.getElem_cons_succ, List.setIfInBounds_toArray, List.set_cons_zero, List.set_cons_succ])
        refine wpAnyH_ready (rs := [0, 9]) (by kernel_rfl) (by simp) ?_
        refine AllReadyH.cons rfl (fun K hK => ?_) ?_
        · go_simp
          have hb17 : Below w.heap.size w (v15.alloc (.cells #[.int .i64 (-1), .int .i64 60, .int .i64 61] 3)) := hb15.alloc hb15.size _
          have hr17 : RdD (v15.alloc (.cells #[.int .i64 (-1), .int .i64 60, .int .i64 61] 3)) w.heap.size L _ := hr15.below ((Below.refl _ _).alloc (Nat.le_refl _) _)
          refine hK.out _ _ hb17 (fun hHeld => ?_)
          clear hK K hHeld
          have hlb17 : w.heap.size < v15.heap.size := hr15.lt
          have hw017 : Row (v15.alloc (.cells #[.int .i64 (-1), .int .i64 60, .int .i64 61] 3)) v15.heap.size 3 [.int .i64 (-1), .int .i64 60, .int .i64 61] := Row.new _ _ _
          obtain ⟨blk, hblk⟩ : ∃ n, n = v15.heap.size := ⟨_, rfl⟩
          rw [← hblk] at hlb17 hw017
          try simp only [World.drew_heap_size] at hblk
          simp only [← hblk]
          refine wpAnyH_weaken (S' := fun W => Below w.heap.size w W ∧ Row W blk 3 [.int .i64 (-1), .int .i64 60, .int .i64 61]) (fun _ h => h.1) _ _ _ _ ?_
          generalize v15.alloc _ = v17 at *
          clear hblk
          have ra18 : (r1 : Int) < 3 := by omega
          have rb18 : (0 : Int) ≤ (r1 : Int) := by omega
          refine' wpAnyH_take (i := 3) (v := _) rfl (by kernel_rfl) (by kernel_rfl) (by kernel_rfl) (fun _ _ _ h => h) (Or.inl ⟨by kernel_rfl, by (intro W hS; go_simp; first | done | with_reducible rfl | rfl)⟩) ⟨hb17, hw017⟩ ?_
          (try simp only [Act.put, List.getElem_toArray, List.getElem_cons_zero, List.getElem_cons_succ, List.setIfInBounds_toArray, List.set_cons_zero, List.set_cons_succ])
          refine wpAnyH_take (i := 4) (v := .int .i64 (pick3 (-1) 60 61 r1)) rfl (by kernel_rfl) (by kernel_rfl) (by kernel_rfl) (fun _ _ _ h => h) (Or.inl ⟨by kernel_rfl, by (intro W hS; have y := (hS.2.cell r1).trans (pick3_at _ _ _ r1 (by omega)); have yl := hS.2.lt; go_simp; first | done | with_reducible rfl | rfl)⟩) ⟨hb17, hw017⟩ ?_
          (try simp only [Act.put, List.getElem_toArray, List.getElem_cons_zero, List.getElem_cons_succ, List.setIfInBounds_toArray, List.set_cons_zero, List.set_cons_succ])
          refine wpAnyH_ready (rs := [9]) (by kernel_rfl) (by simp) ?_
          refine AllReadyH.cons rfl (fun K hK => ?_) AllReadyH.nil
          go_simp
          go_at_call 66
          refine (pick_any hr17 (n := 16) (by omega) (by omega) (by omega)).mono ?_
          rintro e v19 ⟨r3, rfl, hlt19, hr19, hg19⟩
          have hb19 := hb17.trans (below_of_grown hg19 (Nat.le_refl _) hb17.size)
          have hw19 := hw017.grown hg19 (fun e => by injection e with e; omega)
          try go_simp
          refine hK.out _ _ ⟨hb19, hw19⟩ (fun hHeld => ?_)
          clear hK K hHeld
          have ka20 : IntKind.i64.wrap (1 + (r3 : Int)) = 1 + (r3 : Int) := wrapI _ (by omega) (by omega)
          have kb20 : wrap64 (1 + (r3 : Int)) = 1 + (r3 : Int) := by unfold wrap64; omega
          refine wpAnyH_take (i := 10) (v := .int .i64 (1 + (r3 : Int))) rfl (by kernel_rfl) (by kernel_rfl) (by kernel_rfl) (fun _ _ _ h => h) (Or.inl ⟨by kernel_rfl, by (intro W hS; go_simp; first | done | with_reducible rfl | rfl)⟩) ⟨hb19, hw19⟩ ?_
          (try simp only [Act.put, List.getElem_toArray, List.getElem_cons_zero, List.getElem_cons_succ, List.setIfInBounds_toArray, List.set_cons_zero, List.set_cons_succ])
          refine wpAnyH_take (i := 11) (v := .int .i64 (pick3 (-1) 60 61 r1)) rfl (by kernel_rfl) (by kernel_rfl) (by kernel_rfl) (fun _ _ _ h => h) (Or.inl ⟨by kernel_rfl, by (intro W hS; go_simp; first | done | with_reducible rfl | rfl)⟩) ⟨hb19, hw19⟩ ?_
          (try simp only [Act.put, List.getElem_toArray, List.getElem_cons_zero, List.getElem_cons_succ, List.setIfInBounds_toArray, List.set_cons_zero, List.set_cons_succ])
          refine wpAnyH_take (i := 12) (v := .int .i64 (1 + (r2 : Int))) rfl (by kernel_rfl) (by kernel_rfl) (by kernel_rfl) (fun _ _ _ h => h) (Or.inl ⟨by kernel_rfl, by (intro W hS; go_simp; first | done | with_reducible rfl | rfl)⟩) ⟨hb19, hw19⟩ ?_
          (try simp only [Act.put, List.getElem_toArray, List.getElem_cons_zero, List.getElem_cons_succ, List.setIfInBounds_toArray, List.set_cons_zero, List.set_cons_succ])
          refine wpAnyH_take (i := 13) (v := .int .i64 (1 + (r3 : Int))) rfl (by kernel_rfl) (by kernel_rfl) (by kernel_rfl) (fun _ _ _ h => h) (Or.inl ⟨by kernel_rfl, by (intro W hS; go_simp; first | done | with_reducible rfl | rfl)⟩) ⟨hb19, hw19⟩ ?_
          (try simp only [Act.put, List.getElem_toArray, List.getElem_cons_zero, List.getElem_cons_succ, List.setIfInBounds_toArray, List.set_cons_zero, List.set_cons_succ])
          refine wpAnyH_done (by kernel_rfl) ?_ _
          go_wp2
          go_ret3
          exact ⟨(pick3 (-1) 60 61 r1), (1 + (r2 : Int)), (1 + (r3 : Int)), rfl, by first | omega | exact pick3_bd _ (by omega) (by omega) (by omega), by first | omega | exact pick3_bd _ (by omega) (by omega) (by omega), by first | omega | exact pick3_bd _ (by omega) (by omega) (by omega), hb19⟩
        refine AllReadyH.cons rfl (fun K hK => ?_) AllReadyH.nil
        · go_simp
          go_at_call 66
          refine (pick_any hr15 (n := 16) (by omega) (by omega) (by omega)).mono ?_
          rintro e v21 ⟨r3, rfl, hlt21, hr21, hg21⟩
          have hb21 := hb15.trans (below_of_grown hg21 (Nat.le_refl _) hb15.size)
          try go_simp
          refine hK.out _ _ hb21 (fun hHeld => ?_)
          clear hK K hHeld
          have ka22 : IntKind.i64.wrap (1 + (r3 : Int)) = 1 + (r3 : Int) := wrapI _ (by omega) (by omega)
          have kb22 : wrap64 (1 + (r3 : Int)) = 1 + (r3 : Int) := by unfold wrap64; omega
          refine wpAnyH_take (i := 10) (v := .int .i64 (1 + (r3 : Int))) rfl (by kernel_rfl) (by kernel_rfl) (by kernel_rfl) (fun _ _ _ h => h) (Or.inl ⟨by kernel_rfl, by (intro W hS; go_simp; first | done | with_reducible rfl | rfl)⟩) hb21 ?_
          (try simp only [Act.put, List.getElem_toArray, List.getElem_cons_zero, List.getElem_cons_succ, List.setIfInBounds_toArray, List.set_cons_zero, List.set_cons_succ])
          refine wpAnyH_ready (rs := [0]) (by kernel_rfl) (by simp) ?_
          refine AllReadyH.cons rfl (fun K hK => ?_) AllReadyH.nil
          go_simp
          have hb23 : Below w.heap.size w (v21.alloc (.cells #[.int .i64 (-1), .int .i64 60, .int .i64 61] 3)) := hb21.alloc hb21.size _
          have hr23 : RdD (v21.alloc (.cells #[.int .i64 (-1), .int .i64 60, .int .i64 61] 3)) w.heap.size L _ := hr21.below ((Below.refl _ _).alloc (Nat.le_refl _) _)
          refine hK.out _ _ hb23 (fun hHeld => ?_)
          clear hK K hHeld
          have hlb23 : w.heap.size < v21.heap.size := hr21.lt
          have hw023 : Row (v21.alloc (.cells #[.int .i64 (-1), .int .i64 60, .int .i64 61] 3)) v21.heap.size 3 [.int .i64 (-1), .int .i64 60, .int .i64 61] := Row.new _ _ _
          obtain ⟨blk, hblk⟩ : ∃ n, n = v21.heap.size := ⟨_, rfl⟩
          rw [← hblk] at hlb23 hw023
          try simp only [World.drew_heap_size] at hblk
          simp only [← hblk]
          refine wpAnyH_weaken (S' := fun W => Below w.heap.size w W ∧ Row W blk 3 [.int .i64 (-1), .int .i64 60, .int .i64 61]) (fun _ h => h.1) _ _ _ _ ?_
          generalize v21.alloc _ = v23 at *
          clear hblk
          have ra24 : (r1 : Int) < 3 := by omega
          have rb24 : (0 : Int) ≤ (r1 : Int) := by omega
          refine' wpAnyH_take (i := 3) (v := _) rfl (by kernel_rfl) (by kernel_rfl) (by kernel_rfl) (fun _ _ _ h => h) (Or.inl ⟨by kernel_rfl, by (intro W hS; go_simp; first | done | with_reducible rfl | rfl)⟩) ⟨hb23, hw023⟩ ?_
          (try simp only [Act.put, List.getElem_toArray, List.getElem_cons_zero, List.getElem_cons_succ, List.setIfInBounds_toArray, List.set_cons_zero, List.set_cons_succ])
          refine wpAnyH_take (i := 4) (v := .int .i64 (pick3 (-1) 60 61 r1)) rfl (by kernel_rfl) (by kernel_rfl) (by kernel_rfl) (fun _ _ _ h => h) (Or.inl ⟨by kernel_rfl, by (intro W hS; have y := (hS.2.cell r1).trans (pick3_at _ _ _ r1 (by omega)); have yl := hS.2.lt; go_simp; first | done | with_reducible rfl | rfl)⟩) ⟨hb23, hw023⟩ ?_
          (try simp only [Act.put, List.getElem_toArray, List.getElem_cons_zero, List.getElem_cons_succ, List.setIfInBounds_toArray, List.set_cons_zero, List.set_cons_succ])
          refine wpAnyH_take (i := 11) (v := .int .i64 (pick3 (-1) 60 61 r1)) rfl (by kernel_rfl) (by kernel_rfl) (by kernel_rfl) (fun _ _ _ h => h) (Or.inl ⟨by kernel_rfl, by (intro W hS; go_simp; first | done | with_reducible rfl | rfl)⟩) ⟨hb23, hw023⟩ ?_
          (try simp only [Act.put, List.getElem_toArray, List.getElem_cons_zero, List.getElem_cons_succ, List.setIfInBounds_toArray, List.set_cons_zero, List.set_cons_succ])
          refine wpAnyH_take (i := 12) (v := .int .i64 (1 + (r2 : Int))) rfl (by kernel_rfl) (by kernel_rfl) (by kernel_rfl) (fun _ _ _ h => h) (Or.inl ⟨by kernel_rfl, by (intro W hS; go_simp; first | done | with_reducible rfl | rfl)⟩) ⟨hb23, hw023⟩ ?_
          (try simp only [Act.put, List.getElem_toArray, List.getElem_cons_zero, List.getElem_cons_succ, List.setIfInBounds_toArray, List.set_cons_zero, List.set_cons_succ])
          refine wpAnyH_take (i := 13) (v := .int .i64 (1 + (r3 : Int))) rfl (by kernel_rfl) (by kernel_rfl) (by kernel_rfl) (fun _ _ _ h => h) (Or.inl ⟨by kernel_rfl, by (intro W hS; go_simp; first | done | with_reducible rfl | rfl)⟩) ⟨hb23, hw023⟩ ?_
          (try simp only [Act.put, List.getElem_toArray, List.getElem_cons_zero, List.getElem_cons_succ, List.setIfInBounds_toArray, List.set_cons_zero, List.set_cons_succ])
          refine wpAnyH_done (by kernel_rfl) ?_ _
          go_wp2
          go_ret3
          exact ⟨(pick3 (-1) 60 61 r1), (1 + (r2 : Int)), (1 + (r3 : Int)), rfl, by first | omega | exact pick3_bd _ (by omega) (by omega) (by omega), by first | omega | exact pick3_bd _ (by omega) (by omega) (by omega), by first | omega | exact pick3_bd _ (by omega) (by omega) (by omega), hb23⟩
  have n0 : ((r : Int) == 0) = false := beqf' (by omega)
  have m0 : ¬ ((r : Int) = 0) := by omega
  by_cases e1 : r = 1
  · subst e1
    go_wp2_with fail
    refine wp_region_held_drew (S := fun W => Below w.heap.size w W) (by kernel_rfl) (below_drewN HB.out 1) (fun hb0 => ?_)
    have hr0 : RdD w3.drew w.heap.size L _ := HR.out.below (below_drewN (Below.refl _ _) 1)
    generalize w3.drew = w4 at *
    refine wpAnyH_take (i := 0) (v := .pointer (some ⟨w.heap.size, 0, none⟩)) rfl (by kernel_rfl) (by kernel_rfl) (by kernel_rfl) (fun _ _ _ h => h) (Or.inl ⟨by kernel_rfl, by (intro W hS; go_simp; first | done | with_reducible rfl | rfl)⟩) hb0 ?_
    (try simp only [Act.put, List.getElem_toArray, List.getElem_cons_zero, List.getElem_cons_succ, List.setIfInBounds_toArray, List.set_cons_zero, List.set_cons_succ])
    refine wpAnyH_take (i := 3) (v := .pointer (some ⟨w.heap.size, 0, none⟩)) rfl (by kernel_rfl) (by kernel_rfl) (by kernel_rfl) (fun _ _ _ h => h) (Or.inl ⟨by kernel_rfl, by (intro W hS; go_simp; first | done | with_reducible rfl | rfl)⟩) hb0 ?_
    (try simp only [Act.put, List.getElem_toArray, List.getElem_cons_zero, List.getElem_cons_succ, List.setIfInBounds_toArray, List.set_cons_zero, List.set_cons_succ])
    refine wpAnyH_take (i := 7) (v := .pointer (some ⟨w.heap.size, 0, none⟩)) rfl (by kernel_rfl) (by kernel_rfl) (by kernel_rfl) (fun _ _ _ h => h) (Or.inl ⟨by kernel_rfl, by (intro W hS; go_simp; first | done | with_reducible rfl | rfl)⟩) hb0 ?_
    (try simp only [Act.put, List.getElem_toArray, List.getElem_cons_zero, List.getElem_cons_succ, List.setIfInBounds_toArray, List.set_cons_zero, List.set_cons_succ])
    refine wpAnyH_ready (rs := [1, 2]) (by kernel_rfl) (by simp) ?_
    refine AllReadyH.cons rfl (fun K hK => ?_) ?_
    · go_simp
      go_at_call 66
      refine (pick_any hr0 (n := 9) (by omega) (by omega) (by omega)).mono ?_
      rintro e v1 ⟨r1, rfl, hlt1, hr1, hg1⟩
      have hb1 := hb0.trans (below_of_grown hg1 (Nat.le_refl _) hb0.size)
      try go_simp
      refine hK.out _ _ hb1 (fun hHeld => ?_)
      clear hK K hHeld
      refine wpAnyH_ready (rs := [2, 4]) (by kernel_rfl) (by simp) ?_
      refine AllReadyH.cons rfl (fun K hK => ?_) ?_
      · go_simp
        have hb2 : Below w.heap.size w (v1.alloc (.cells #[.int .i64 0, .int .i64 8, .int .i64 9] 3)) := hb1.alloc hb1.size _
        have hr2 : RdD (v1.alloc (.cells #[.int .i64 0, .int .i64 8, .int .i64 9] 3)) w.heap.size L _ := hr1.below ((Below.refl _ _).alloc (Nat.le_refl _) _)
        refine hK.out _ _ hb2 (fun hHeld => ?_)
        clear hK K hHeld
        have hlb2 : w.heap.size < v1.heap.size := hr1.lt
        have hw02 : Row (v1.alloc (.cells #[.int .i64 0, .int .i64 8, .int .i64 9] 3)) v1.heap.size 3 [.int .i64 0, .int .i64 8, .int .i64 9] := Row.new _ _ _
        obtain ⟨blk, hblk⟩ : ∃ n, n = v1.heap.size := ⟨_, rfl⟩
        rw [← hblk] at hlb2 hw02
        try simp only [World.drew_heap_size] at hblk
        simp only [← hblk]
        refine wpAnyH_weaken (S' := fun W => Below w.heap.size w W ∧ Row W blk 3 [.int .i64 0, .int .i64 8, .int .i64 9]) (fun _ h => h.1) _ _ _ _ ?_
        generalize v1.alloc _ = v2 at *
        clear hblk
        refine wpAnyH_ready (rs := [4]) (by kernel_rfl) (by simp) ?_
        refine AllReadyH.cons rfl (fun K hK => ?_) AllReadyH.nil
        go_simp
        go_at_call 66
        refine (pick_any hr2 (n := 3) (by omega) (by omega) (by omega)).mono ?_
        rintro e v3 ⟨r2, rfl, hlt3, hr3, hg3⟩
        have hb3 := hb2.trans (below_of_grown hg3 (Nat.le_refl _) hb2.size)
        have hw3 := hw02.grown hg3 (fun e => by injection e with e; omega)
        try go_simp
        refine hK.out _ _ ⟨hb3, hw3⟩ (fun hHeld => ?_)
        clear hK K hHeld
        have ra4 : (r2 : Int) < 3 := by omega
        have rb4 : (0 : Int) ≤ (r2 : Int) := by omega
        refine' wpAnyH_take (i := 5) (v := _) rfl (by kernel_rfl) (by kernel_rfl) (by kernel_rfl) (fun _ _ _ h => h) (Or.inl ⟨by kernel_rfl, by (intro W hS; go_simp; first | done | with_reducible rfl | rfl)⟩) ⟨hb3, hw3⟩ ?_
        (try simp only [Act.put, List.getElem_toArray, List.getElem_cons_zero, List.getElem_cons_succ, List.setIfInBounds_toArray, List.set_cons_zero, List.set_cons_succ])
        refine wpAnyH_take (i := 6) (v := .int .i64 (pick3 0 8 9 r2)) rfl (by kernel_rfl) (by kernel_rfl) (by kernel_rfl) (fun _ _ _ h => h) (Or.inl ⟨by kernel_rfl, by (intro W hS; have y := (hS.2.cell r2).trans (pick3_at _ _ _ r2 (by omega)); have yl := hS.2.lt; go_simp; first | done | with_reducible rfl | rfl)⟩) ⟨hb3, hw3⟩ ?_
        (try simp only [Act.put, List.getElem_toArray, List.getElem_cons_zero, List.getElem_cons_succ, List.setIfInBounds_toArray, List.set_cons_zero, List.set_cons_succ])
        refine wpAnyH_ready (rs := [8]) (by kernel_rfl) (by simp) ?_
        refine AllReadyH.cons rfl (fun K hK => ?_) AllReadyH.nil
        go_simp
        go_at_call 66
        refine (pick_any hr3 (n := 16) (by omega) (by omega) (by omega)).mono ?_
        rintro e v5 ⟨r3, rfl, hlt5, hr5, hg5⟩
        have hb5 := hb3.trans (below_of_grown hg5 (Nat.le_refl _) hb3.size)
        have hw5 := hw3.grown hg5 (fun e => by injection e with e; omega)
        try go_simp
        refine hK.out _ _ ⟨hb5, hw5⟩ (fun hHeld => ?_)
        clear hK K hHeld
        have ka6 : IntKind.i64.wrap (1 + (r3 : Int)) = 1 + (r3 : Int) := wrapI _ (by omega) (by omega)
        have kb6 : wrap64 (1 + (r3 : Int)) = 1 + (r3 : Int) := by unfold wrap64; omega
        refine wpAnyH_take (i := 9) (v := .int .i64 (1 + (r3 : Int))) rfl (by kernel_rfl) (by kernel_rfl) (by kernel_rfl) (fun _ _ _ h => h) (Or.inl ⟨by kernel_rfl, by (intro W hS; go_simp; first | done | with_reducible rfl | rfl)⟩) ⟨hb5, hw5⟩ ?_
        (try simp only [Act.put, List.getElem_toArray, List.getElem_cons_zero, List.getElem_cons_succ, List.setIfInBounds_toArray, List.set_cons_zero, List.set_cons_succ])
        refine wpAnyH_take (i := 10) (v := .int .i64 (r1 : Int)) rfl (by kernel_rfl) (by kernel_rfl) (by kernel_rfl) (fun _ _ _ h => h) (Or.inl ⟨by kernel_rfl, by (intro W hS; go_simp; first | done | with_reducible rfl | rfl)⟩) ⟨hb5, hw5⟩ ?_
        (try simp only [Act.put, List.getElem_toArray, List.getElem_cons_zero, List.getElem_cons_succ, List.setIfInBounds_toArray, List.set_cons_zero, List.set_cons_succ])
        refine wpAnyH_take (i := 11) (v := .int .i64 (pick3 0 8 9 r2)) rfl (by kernel_rfl) (by kernel_rfl) (by kernel_rfl) (fun _ _ _ h => h) (Or.inl ⟨by kernel_rfl, by (intro W hS; go_simp; first | done | with_reducible rfl | rfl)⟩) ⟨hb5, hw5⟩ ?_
        (try simp only [Act.put, List.getElem_toArray, List.getElem_cons_zero, List.getElem_cons_succ, List.setIfInBounds_toArray, List.set_cons_zero, List.set_cons_succ])
        refine wpAnyH_take (i := 12) (v := .int .i64 (1 + (r3 : Int))) rfl (by kernel_rfl) (by kernel_rfl) (by kernel_rfl) (fun _ _ _ h => h) (Or.inl ⟨by kernel_rfl, by (intro W hS; go_simp; first | done | with_reducible rfl | rfl)⟩) ⟨hb5, hw5⟩ ?_
        (try simp only [Act.put, List.getElem_toArray, List.getElem_cons_zero, List.getElem_cons_succ, List.setIfInBounds_toArray, List.set_cons_zero, List.set_cons_succ])
        refine wpAnyH_done (by kernel_rfl) ?_ _
        go_wp2
        go_ret3
        exact ⟨(r1 : Int), (pick3 0 8 9 r2), (1 + (r3 : Int)), rfl, by first | omega | exact pick3_bd _ (by omega) (by omega) (by omega), by first | omega | exact pick3_bd _ (by omega) (by omega) (by omega), by first | omega | exact pick3_bd _ (by omega) (by omega) (by omega), hb5⟩
      refine AllReadyH.cons rfl (fun K hK => ?_) AllReadyH.nil
      · go_simp
        go_at_call 66
        refine (pick_any hr1 (n := 3) (by omega) (by omega) (by omega)).mono ?_
        rintro e v7 ⟨r2, rfl, hlt7, hr7, hg7⟩
        have hb7 := hb1.trans (below_of_grown hg7 (Nat.le_refl _) hb1.size)
        try go_simp
        refine hK.out _ _ hb7 (fun hHeld => ?_)
        clear hK K hHeld
        refine wpAnyH_ready (rs := [2, 8]) (by kernel_rfl) (by simp) ?_
        refine AllReadyH.cons rfl (fun K hK => ?_) ?_
        · go_simp
          have hb8 : Below w.heap.size w (v7.alloc (.cells #[.int .i64 0, .int .i64 8, .int .i64 9] 3)) := hb7.alloc hb7.size _
          have hr8 : RdD (v7.alloc (.cells #[.int .i64 0, .int .i64 8, .int .i64 9] 3)) w.heap.size L _ := hr7.below ((Below.refl _ _).alloc (Nat.le_refl _) _)
          refine hK.out _ _ hb8 (fun hHeld => ?_)
          clear hK K hHeld
          have hlb8 : w.heap.size < v7.heap.size := hr7.lt
          have hw08 : Row (v7.alloc (.cells #[.int .i64 0, .int .i64 8, .int .i64 9] 3)) v7.heap.size 3 [.int .i64 0, .int .i64 8, .int .i64 9] := Row.new _ _ _
          obtain ⟨blk, hblk⟩ : ∃ n, n = v7.heap.size := ⟨_, rfl⟩
          rw [← hblk] at hlb8 hw08
          try simp only [World.drew_heap_size] at hblk
          simp only [← hblk]
          refine wpAnyH_weaken (S' := fun W => Below w.heap.size w W ∧ Row W blk 3 [.int .i64 0, .int .i64 8, .int .i64 9]) (fun _ h => h.1) _ _ _ _ ?_
          generalize v7.alloc _ = v8 at *
          clear hblk
          have ra9 : (r2 : Int) < 3 := by omega
          have rb9 : (0 : Int) ≤ (r2 : Int) := by omega
          refine' wpAnyH_take (i := 5) (v := _) rfl (by kernel_rfl) (by kernel_rfl) (by kernel_rfl) (fun _ _ _ h => h) (Or.inl ⟨by kernel_rfl, by (intro W hS; go_simp; first | done | with_reducible rfl | rfl)⟩) ⟨hb8, hw08⟩ ?_
          (try simp only [Act.put, List.getElem_toArray, List.getElem_cons_zero, List.getElem_cons_succ, List.setIfInBounds_toArray, List.set_cons_zero, List.set_cons_succ])
          refine wpAnyH_take (i := 6) (v := .int .i64 (pick3 0 8 9 r2)) rfl (by kernel_rfl) (by kernel_rfl) (by kernel_rfl) (fun _ _ _ h => h) (Or.inl ⟨by kernel_rfl, by (intro W hS; have y := (hS.2.cell r2).trans (pick3_at _ _ _ r2 (by omega)); have yl := hS.2.lt; go_simp; first | done | with_reducible rfl | rfl)⟩) ⟨hb8, hw08⟩ ?_
          (try simp only [Act.put, List.getElem_toArray, List.getElem_cons_zero, List.getElem_cons_succ, List.setIfInBounds_toArray, List.set_cons_zero, List.set_cons_succ])
          refine wpAnyH_ready (rs := [8]) (by kernel_rfl) (by simp) ?_
          refine AllReadyH.cons rfl (fun K hK => ?_) AllReadyH.nil
          go_simp
          go_at_call 66
          refine (pick_any hr8 (n := 16) (by omega) (by omega) (by omega)).mono ?_
          rintro e v10 ⟨r3, rfl, hlt10, hr10, hg10⟩
          have hb10 := hb8.trans (below_of_grown hg10 (Nat.le_refl _) hb8.size)
          have hw10 := hw08.grown hg10 (fun e => by injection e with e; omega)
          try go_simp
          refine hK.out _ _ ⟨hb10, hw10⟩ (fun hHeld => ?_)
          clear hK K hHeld
          have ka11 : IntKind.i64.wrap (1 + (r3 : Int)) = 1 + (r3 : Int) := wrapI _ (by omega) (by omega)
          have kb11 : wrap64 (1 + (r3 : Int)) = 1 + (r3 : Int) := by unfold wrap64; omega
          refine wpAnyH_take (i := 9) (v := .int .i64 (1 + (r3 : Int))) rfl (by kernel_rfl) (by kernel_rfl) (by kernel_rfl) (fun _ _ _ h => h) (Or.inl ⟨by kernel_rfl, by (intro W hS; go_simp; first | done | with_reducible rfl | rfl)⟩) ⟨hb10, hw10⟩ ?_
          (try simp only [Act.put, List.getElem_toArray, List.getElem_cons_zero, List.getElem_cons_succ, List.setIfInBounds_toArray, List.set_cons_zero, List.set_cons_succ])
          refine wpAnyH_take (i := 10) (v := .int .i64 (r1 : Int)) rfl (by kernel_rfl) (by kernel_rfl) (by kernel_rfl) (fun _ _ _ h => h) (Or.inl ⟨by kernel_rfl, by (intro W hS; go_simp; first | done | with_reducible rfl | rfl)⟩) ⟨hb10, hw10⟩ ?_
          (try simp only [Act.put, List.getElem_toArray, List.getElem_cons_zero, List.getElem_cons_succ, List.setIfInBounds_toArray, List.set_cons_zero, List.set_cons_succ])
          refine wpAnyH_take (i := 11) (v := .int .i64 (pick3 0 8 9 r2)) rfl (by kernel_rfl) (by kernel_rfl) (by kernel_rfl) (fun _ _ _ h => h) (Or.inl ⟨by kernel_rfl, by (intro W hS; go_simp; first | done | with_reducible rfl | rfl)⟩) ⟨hb10, hw10⟩ ?_
          (try simp only [Act.put, List.getElem_toArray, List.getElem_cons_zero, List.getElem_cons_succ, List.setIfInBounds_toArray, List.set_cons_zero, List.set_cons_succ])
          refine wpAnyH_take (i := 12) (v := .int .i64 (1 + (r3 : Int))) rfl (by kernel_rfl) (by kernel_rfl) (by kernel_rfl) (fun _ _ _ h => h) (Or.inl ⟨by kernel_rfl, by (intro W hS; go_simp; first | done | with_reducible rfl | rfl)⟩) ⟨hb10, hw10⟩ ?_
          (try simp only [Act.put, List.getElem_toArray, List.getElem_cons_zero, List.getElem_cons_succ, List.setIfInBounds_toArray, List.set_cons_zero, List.set_cons_succ])
          refine wpAnyH_done (by kernel_rfl) ?_ _
          go_wp2
          go_ret3
          exact ⟨(r1 : Int), (pick3 0 8 9 r2), (1 + (r3 : Int)), rfl, by first | omega | exact pick3_bd _ (by omega) (by omega) (by omega), by first | omega | exact pick3_bd _ (by omega) (by omega) (by omega), by first | omega | exact pick3_bd _ (by omega) (by omega) (by omega), hb10⟩
        refine AllReadyH.cons rfl (fun K hK => ?_) AllReadyH.nil
        · go_simp
          go_at_call 66
          refine (pick_any hr7 (n := 16) (by omega) (by omega) (by omega)).mono ?_
          rintro e v12 ⟨r3, rfl, hlt12, hr12, hg12⟩
          have hb12 := hb7.trans (below_of_grown hg12 (Nat.le_refl _) hb7.size)
          try go_simp
          refine hK.out _ _ hb12 (fun hHeld => ?_)
          clear hK K hHeld
          have ka13 : IntKind.i64.wrap (1 + (r3 : Int)) = 1 + (r3 : Int) := wrapI _ (by omega) (by omega)
          have kb13 : wrap64 (1 + (r3 : Int)) = 1 + (r3 : Int) := by unfold wrap64; omega
          refine wpAnyH_take (i := 9) (v := .int .i64 (1 + (r3 : Int))) rfl (by kernel_rfl) (by kernel_rfl) (by kernel_rfl) (fun _ _ _ h => h) (Or.inl ⟨by kernel_rfl, by (intro W hS; go_simp; first | done | with_reducible rfl | rfl)⟩) hb12 ?_
          (try simp only [Act.put, List.getElem_toArray, List.getElem_cons_zero, List.getElem_cons_succ, List.setIfInBounds_toArray, List.set_cons_zero, List.set_cons_succ])
          refine wpAnyH_take (i := 10) (v := .int .i64 (r1 : Int)) rfl (by kernel_rfl) (by kernel_rfl) (by kernel_rfl) (fun _ _ _ h => h) (Or.inl ⟨by kernel_rfl, by (intro W hS; go_simp; first | done | with_reducible rfl | rfl)⟩) hb12 ?_
          (try simp only [Act.put, List.getElem_toArray, List.getElem_cons_zero, List.getElem_cons_succ, List.setIfInBounds_toArray, List.set_cons_zero, List.set_cons_succ])
          refine wpAnyH_ready (rs := [2]) (by kernel_rfl) (by simp) ?_
          refine AllReadyH.cons rfl (fun K hK => ?_) AllReadyH.nil
          go_simp
          have hb14 : Below w.heap.size w (v12.alloc (.cells #[.int .i64 0, .int .i64 8, .int .i64 9] 3)) := hb12.alloc hb12.size _
          have hr14 : RdD (v12.alloc (.cells #[.int .i64 0, .int .i64 8, .int .i64 9] 3)) w.heap.size L _ := hr12.below ((Below.refl _ _).alloc (Nat.le_refl _) _)
          refine hK.out _ _ hb14 (fun hHeld => ?_)
          clear hK K hHeld
          have hlb14 : w.heap.size < v12.heap.size := hr12.lt
          have hw014 : Row (v12.alloc (.cells #[.int .i64 0, .int .i64 8, .int .i64 9] 3)) v12.heap.size 3 [.int .i64 0, .int .i64 8, .int .i64 9] := Row.new _ _ _
          obtain ⟨blk, hblk⟩ : ∃ n, n = v12.heap.size := ⟨_, rfl⟩
          rw [← hblk] at hlb14 hw014
          try simp only [World.drew_heap_size] at hblk
          simp only [← hblk]
          refine wpAnyH_weaken (S' := fun W => Below w.heap.size w W ∧ Row W blk 3 [.int .i64 0, .int .i64 8, .int .i64 9]) (fun _ h => h.1) _ _ _ _ ?_
          generalize v12.alloc _ = v14 at *
          clear hblk
          have ra15 : (r2 : Int) < 3 := by omega
          have rb15 : (0 : Int) ≤ (r2 : Int) := by omega
          refine' wpAnyH_take (i := 5) (v := _) rfl (by kernel_rfl) (by kernel_rfl) (by kernel_rfl) (fun _ _ _ h => h) (Or.inl ⟨by kernel_rfl, by (intro W hS; go_simp; first | done | with_reducible rfl | rfl)⟩) ⟨hb14, hw014⟩ ?_
          (try simp only [Act.put, List.getElem_toArray, List.getElem_cons_zero, List.getElem_cons_succ, List.setIfInBounds_toArray, List.set_cons_zero, List.set_cons_succ])
          refine wpAnyH_take (i := 6) (v := .int .i64 (pick3 0 8 9 r2)) rfl (by kernel_rfl) (by kernel_rfl) (by kernel_rfl) (fun _ _ _ h => h) (Or.inl ⟨by kernel_rfl, by (intro W hS; have y := (hS.2.cell r2).trans (pick3_at _ _ _ r2 (by omega)); have yl := hS.2.lt; go_simp; first | done | with_reducible rfl | rfl)⟩) ⟨hb14, hw014⟩ ?_
          (try simp only [Act.put, List.getElem_toArray, List.getElem_cons_zero, List.getElem_cons_succ, List.setIfInBounds_toArray, List.set_cons_zero, List.set_cons_succ])
          refine wpAnyH_take (i := 11) (v := .int .i64 (pick3 0 8 9 r2)) rfl (by kernel_rfl) (by kernel_rfl) (by kernel_rfl) (fun _ _ _ h => h) (Or.inl ⟨by kernel_rfl, by (intro W hS; go_simp; first | done | with_reducible rfl | rfl)⟩) ⟨hb14, hw014⟩ ?_
          (try simp only [Act.put, List.getElem_toArray, List.getElem_cons_zero, List.getElem_cons_succ, List.setIfInBounds_toArray, List.set_cons_zero, List.set_cons_succ])
          refine wpAnyH_take (i := 12) (v := .int .i64 (1 + (r3 : Int))) rfl (by kernel_rfl) (by kernel_rfl) (by kernel_rfl) (fun _ _ _ h => h) (Or.inl ⟨by kernel_rfl, by (intro W hS; go_simp; first | done | with_reducible rfl | rfl)⟩) ⟨hb14, hw014⟩ ?_
          (try simp only [Act.put, List.getElem_toArray, List.getElem_cons_zero, List.getElem_cons_succ, List.setIfInBounds_toArray, List.set_cons_zero, List.set_cons_succ])
          refine wpAnyH_done (by kernel_rfl) ?_ _
          go_wp2
          go_ret3
          exact ⟨(r1 : Int), (pick3 0 8 9 r2), (1 + (r3 : Int)), rfl, by first | omega | exact pick3_bd _ (by omega) (by omega) (by omega), by first | omega | exact pick3_bd _ (by omega) (by omega) (by omega), by first | omega | exact pick3_bd _ (by omega) (by omega) (by omega), hb14⟩
    refine AllReadyH.cons rfl (fun K hK => ?_) AllReadyH.nil
    · go_simp
      have hb16 : Below w.heap.size w (w4.alloc (.cells #[.int .i64 0, .int .i64 8, .int .i64 9] 3)) := hb0.alloc hb0.size _
      have hr16 : RdD (w4.alloc (.cells #[.int .i64 0, .int .i64 8, .int .i64 9] 3)) w.heap.size L _ := hr0.below ((Below.refl _ _).alloc (Nat.le_refl _) _)
      refine hK.out _ _ hb16 (fun hHeld => ?_)
      clear hK K hHeld
      have hlb16 : w.heap.size < w4.heap.size := hr0.lt
      have hw016 : Row (w4.alloc (.cells #[.int .i64 0, .int .i64 8, .int .i64 9] 3)) w4.heap.size 3 [.int .i64 0, .int .i64 8, .int .i64 9] := Row.new _ _ _
      obtain ⟨blk, hblk⟩ : ∃ n, n = w4.heap.size := ⟨_, rfl⟩
      rw [← hblk] at hlb16 hw016
      try simp only [World.drew_heap_size] at hblk
      simp only [← hblk]
      refine wpAnyH_weaken (S' := fun W => Below w.heap.size w W ∧ Row W blk 3 [.int .i64 0, .int .i64 8, .int .i64 9]) (fun _ h => h.1) _ _ _ _ ?_
      generalize w4.alloc _ = v16 at *
      clear hblk
      refine wpAnyH_ready (rs := [1]) (by kernel_rfl) (by simp) ?_
      refine AllReadyH.cons rfl (fun K hK => ?_) AllReadyH.nil
      go_simp
      go_at_call 66
      refine (pick_any hr16 (n := 9) (by omega) (by omega) (by omega)).mono ?_
      rintro e v17 ⟨r1, rfl, hlt17, hr17, hg17⟩
      have hb17 := hb16.trans (below_of_grown hg17 (Nat.le_refl _) hb16.size)
      have hw17 := hw016.grown hg17 (fun e => by injection e with e; omega)
      try go_simp
      refine hK.out _ _ ⟨hb17, hw17⟩ (fun hHeld => ?_)
      clear hK K hHeld
      refine wpAnyH_ready (rs := [4]) (by kernel_rfl) (by simp) ?_
      refine AllReadyH.cons rfl (fun K hK => ?_) AllReadyH.nil
      go_simp
      go_at_call 66
      refine (pick_any hr17 (n := 3) (by omega) (by omega) (by omega)).mono ?_
      rintro e v18 ⟨r2, rfl, hlt18, hr18, hg18⟩
      have hb18 := hb17.trans (below_of_grown hg18 (Nat.le_refl _) hb17.size)
      have hw18 := hw17.grown hg18 (fun e => by injection e with e; omega)
      try go_simp
      refine hK.out _ _ ⟨hb18, hw18⟩ (fun hHeld => ?_)
      clear hK K hHeld
      have ra19 : (r2 : Int) < 3 := by omega
      have rb19 : (0 : Int) ≤ (r2 : Int) := by omega
      refine' wpAnyH_take (i := 5) (v := _) rfl (by kernel_rfl) (by kernel_rfl) (by kernel_rfl) (fun _ _ _ h => h) (Or.inl ⟨by kernel_rfl, by (intro W hS; go_simp; first | done | with_reducible rfl | rfl)⟩) ⟨hb18, hw18⟩ ?_
      (try simp only [Act.put, List.getElem_toArray, List.getElem_cons_zero, List.getElem_cons_succ, List.setIfInBounds_toArray, List.set_cons_zero, List.set_cons_succ])
      refine wpAnyH_take (i := 6) (v := .int .i64 (pick3 0 8 9 r2)) rfl (by kernel_rfl) (by kernel_rfl) (by kernel_rfl) (fun _ _ _ h => h) (Or.inl ⟨by kernel_rfl, by (intro W hS; have y := (hS.2.cell r2).trans (pick3_at _ _ _ r2 (by omega)); have yl := hS.2.lt; go_simp; first | done | with_reducible rfl | rfl)⟩) ⟨hb18, hw18⟩ ?_
      (try simp only [Act.put, List.getElem_toArray, List.getElem_cons_zero, List.getElem_cons_succ, List.setIfInBounds_toArray, List.set_cons_zero, List.set_cons_succ])
      refine wpAnyH_ready (rs := [8]) (by kernel_rfl) (by simp) ?_
      refine AllReadyH.cons rfl (fun K hK => ?_) AllReadyH.nil
      go_simp
      go_at_call 66
      refine (pick_any hr18 (n := 16) (by omega) (by omega) (by omega)).mono ?_
      rintro e v20 ⟨r3, rfl, hlt20, hr20, hg20⟩
      have hb20 := hb18.trans (below_of_grown hg20 (Nat.le_refl _) hb18.size)
      have hw20 := hw18.grown hg20 (fun e => by injection e with e; omega)
      try go_simp
      refine hK.out _ _ ⟨hb20, hw20⟩ (fun hHeld => ?_)
      clear hK K hHeld
      have ka21 : IntKind.i64.wrap (1 + (r3 : Int)) = 1 + (r3 : Int) := wrapI _ (by omega) (by omega)
      have kb21 : wrap64 (1 + (r3 : Int)) = 1 + (r3 : Int) := by unfold wrap64; omega
      refine wpAnyH_take (i := 9) (v := .int .i64 (1 + (r3 : Int))) rfl (by kernel_rfl) (by kernel_rfl) (by kernel_rfl) (fun _ _ _ h => h) (Or.inl ⟨by kernel_rfl, by (intro W hS; go_simp; first | done | with_reducible rfl | rfl)⟩) ⟨hb20, hw20⟩ ?_
      (try simp only [Act.put, List.getElem_toArray, List.getElem_cons_zero, List.getElem_cons_succ, List.setIfInBounds_toArray, List.set_cons_zero, List.set_cons_succ])
      refine wpAnyH_take (i := 10) (v := .int .i64 (r1 : Int)) rfl (by kernel_rfl) (by kernel_rfl) (by kernel_rfl) (fun _ _ _ h => h) (Or.inl ⟨by kernel_rfl, by (intro W hS; go_simp; first | done | with_reducible rfl | rfl)⟩) ⟨hb20, hw20⟩ ?_
      (try simp only [Act.put, List.getElem_toArray, List.getElem_cons_zero, List.getElem_cons_succ, List.setIfInBounds_toArray, List.set_cons_zero, List.set_cons_succ])
      refine wpAnyH_take (i := 11) (v := .int .i64 (pick3 0 8 9 r2)) rfl (by kernel_rfl) (by kernel_rfl) (by kernel_rfl) (fun _ _ _ h => h) (Or.inl ⟨by kernel_rfl, by (intro W hS; go_simp; first | done | with_reducible rfl | rfl)⟩) ⟨hb20, hw20⟩ ?_
      (try simp only [Act.put, List.getElem_toArray, List.getElem_cons_zero, List.getElem_cons_succ, List.setIfInBounds_toArray, List.set_cons_zero, List.set_cons_succ])
      refine wpAnyH_take (i := 12) (v := .int .i64 (1 + (r3 : Int))) rfl (by kernel_rfl) (by kernel_rfl) (by kernel_rfl) (fun _ _ _ h => h) (Or.inl ⟨by kernel_rfl, by (intro W hS; go_simp; first | done | with_reducible rfl | rfl)⟩) ⟨hb20, hw20⟩ ?_
      (try simp only [Act.put, List.getElem_toArray, List.getElem_cons_zero, List.getElem_cons_succ, List.setIfInBounds_toArray, List.set_cons_zero, List.set_cons_succ])
      refine wpAnyH_done (by kernel_rfl) ?_ _
      go_wp2
      go_ret3
      exact ⟨(r1 : Int), (pick3 0 8 9 r2), (1 + (r3 : Int)), rfl, by first | omega | exact pick3_bd _ (by omega) (by omega) (by omega), by first | omega | exact pick3_bd _ (by omega) (by omega) (by omega), by first | omega | exact pick3_bd _ (by omega) (by omega) (by omega), hb20⟩
  have n1 : ((r : Int) == 1) = false := beqf' (by omega)
  have m1 : ¬ ((r : Int) = 1) := by omega
  by_cases e2 : r = 2
  · subst e2
    go_wp2_with fail
    refine wp_region_held_drew (S := fun W => Below w.heap.size w W) (by kernel_rfl) (below_drewN HB.out 1) (fun hb0 => ?_)
    have hr0 : RdD w3.drew w.heap.size L _ := HR.out.below (below_drewN (Below.refl _ _) 1)
    generalize w3.drew = w4 at *
    refine wpAnyH_take (i := 0) (v := .pointer (some ⟨w.heap.size, 0, none⟩)) rfl (by kernel_rfl) (by kernel_rfl) (by kernel_rfl) (fun _ _ _ h => h) (Or.inl ⟨by kernel_rfl, by (intro W hS; go_simp; first | done | with_reducible rfl | rfl)⟩) hb0 ?_
    (try simp only [Act.put, List.getElem_toArray, List.getElem_cons_zero, List.getElem_cons_succ, List.setIfInBounds_toArray, List.set_cons_zero, List.set_cons_succ])
    refine wpAnyH_take (i := 2) (v := .pointer (some ⟨w.heap.size, 0, none⟩)) rfl (by kernel_rfl) (by kernel_rfl) (by kernel_rfl) (fun _ _ _ h => h) (Or.inl ⟨by kernel_rfl, by (intro W hS; go_simp; first | done | with_reducible rfl | rfl)⟩) hb0 ?_
    (try simp only [Act.put, List.getElem_toArray, List.getElem_cons_zero, List.getElem_cons_succ, List.setIfInBounds_toArray, List.set_cons_zero, List.set_cons_succ])
    refine wpAnyH_take (i := 6) (v := .pointer (some ⟨w.heap.size, 0, none⟩)) rfl (by kernel_rfl) (by kernel_rfl) (by kernel_rfl) (fun _ _ _ h => h) (Or.inl ⟨by kernel_rfl, by (intro W hS; go_simp; first | done | with_reducible rfl | rfl)⟩) hb0 ?_
    (try simp only [Act.put, List.getElem_toArray, List.getElem_cons_zero, List.getElem_cons_succ, List.setIfInBounds_toArray, List.set_cons_zero, List.set_cons_succ])
    refine wpAnyH_ready (rs := [1, 5]) (by kernel_rfl) (by simp) ?_
    refine AllReadyH.cons rfl (fun K hK => ?_) ?_
    · go_simp
      go_at_call 66
      refine (pick_any hr0 (n := 9) (by omega) (by omega) (by omega)).mono ?_
      rintro e v1 ⟨r1, rfl, hlt1, hr1, hg1⟩
      have hb1 := hb0.trans (below_of_grown hg1 (Nat.le_refl _) hb0.size)
      try go_simp
      refine hK.out _ _ hb1 (fun hHeld => ?_)
      clear hK K hHeld
      refine wpAnyH_ready (rs := [3, 5]) (by kernel_rfl) (by simp) ?_
      refine AllReadyH.cons rfl (fun K hK => ?_) ?_
      · go_simp
        go_at_call 66
        refine (pick_any hr1 (n := 8) (by omega) (by omega) (by omega)).mono ?_
        rintro e v2 ⟨r2, rfl, hlt2, hr2, hg2⟩
        have hb2 := hb1.trans (below_of_grown hg2 (Nat.le_refl _) hb1.size)
        try go_simp
        refine hK.out _ _ hb2 (fun hHeld => ?_)
        clear hK K hHeld
        have ka3 : IntKind.i64.wrap (1 + (r2 : Int)) = 1 + (r2 : Int) := wrapI _ (by omega) (by omega)
        have kb3 : wrap64 (1 + (r2 : Int)) = 1 + (r2 : Int) := by unfold wrap64; omega
        refine wpAnyH_take (i := 4) (v := .int .i64 (1 + (r2 : Int))) rfl (by kernel_rfl) (by kernel_rfl) (by kernel_rfl) (fun _ _ _ h => h) (Or.inl ⟨by kernel_rfl, by (intro W hS; go_simp; first | done | with_reducible rfl | rfl)⟩) hb2 ?_
        (try simp only [Act.put, List.getElem_toArray, List.getElem_cons_zero, List.getElem_cons_succ, List.setIfInBounds_toArray, List.set_cons_zero, List.set_cons_succ])
        refine wpAnyH_ready (rs := [5, 7]) (by kernel_rfl) (by simp) ?_
        refine AllReadyH.cons rfl (fun K hK => ?_) ?_
        · go_simp
          have hb4 : Below w.heap.size w (v2.alloc (.cells #[.int .i64 0, .int .i64 16, .int .i64 17] 3)) := hb2.alloc hb2.size _
          have hr4 : RdD (v2.alloc (.cells #[.int .i64 0, .int .i64 16, .int .i64 17] 3)) w.heap.size L _ := hr2.below ((Below.refl _ _).alloc (Nat.le_refl _) _)
          refine hK.out _ _ hb4 (fun hHeld => ?_)
          clear hK K hHeld
          have hlb4 : w.heap.size < v2.heap.size := hr2.lt
          have hw04 : Row (v2.alloc (.cells #[.int .i64 0, .int .i64 16, .int .i64 17] 3)) v2.heap.size 3 [.int .i64 0, .int .i64 16, .int .i64 17] := Row.new _ _ _
          obtain ⟨blk, hblk⟩ : ∃ n, n = v2.heap.size := ⟨_, rfl⟩
          rw [← hblk] at hlb4 hw04
          try simp only [World.drew_heap_size] at hblk
          simp only [← hblk]
          refine wpAnyH_weaken (S' := fun W => Below w.heap.size w W ∧ Row W blk 3 [.int .i64 0, .int .i64 16, .int .i64 17]) (fun _ h => h.1) _ _ _ _ ?_
          generalize v2.alloc _ = v4 at *
          clear hblk
          refine wpAnyH_ready (rs := [7]) (by kernel_rfl) (by simp) ?_
          refine AllReadyH.cons rfl (fun K hK => ?_) AllReadyH.nil
          go_simp
          go_at_call 66
          refine (pick_any hr4 (n := 3) (by omega) (by omega) (by omega)).mono ?_
          rintro e v5 ⟨r3, rfl, hlt5, hr5, hg5⟩
          have hb5 := hb4.trans (below_of_grown hg5 (Nat.le_refl _) hb4.size)
          have hw5 := hw04.grown hg5 (fun e => by injection e with e; omega)
          try go_simp
          refine hK.out _ _ ⟨hb5, hw5⟩ (fun hHeld => ?_)
          clear hK K hHeld
          have ra6 : (r3 : Int) < 3 := by omega
          have rb6 : (0 : Int) ≤ (r3 : Int) := by omega
          refine' wpAnyH_take (i := 8) (v := _) rfl (by kernel_rfl) (by kernel_rfl) (by kernel_rfl) (fun _ _ _ h => h) (Or.inl ⟨by kernel_rfl, by (intro W hS; go_simp; first | done | with_reducible rfl | rfl)⟩) ⟨hb5, hw5⟩ ?_
          (try simp only [Act.put, List.getElem_toArray, List.getElem_cons_zero, List.getElem_cons_succ, List.setIfInBounds_toArray, List.set_cons_zero, List.set_cons_succ])
          refine wpAnyH_take (i := 9) (v := .int .i64 (pick3 0 16 17 r3)) rfl (by kernel_rfl) (by kernel_rfl) (by kernel_rfl) (fun _ _ _ h => h) (Or.inl ⟨by kernel_rfl, by (intro W hS; have y := (hS.2.cell r3).trans (pick3_at _ _ _ r3 (by omega)); have yl := hS.2.lt; go_simp; first | done | with_reducible rfl | rfl)⟩) ⟨hb5, hw5⟩ ?_
          (try simp only [Act.put, List.getElem_toArray, List.getElem_cons_zero, List.getElem_cons_succ, List.setIfInBounds_toArray, List.set_cons_zero, List.set_cons_succ])
          refine wpAnyH_take (i := 10) (v := .int .i64 (r1 : Int)) rfl (by kernel_rfl) (by kernel_rfl) (by kernel_rfl) (fun _ _ _ h => h) (Or.inl ⟨by kernel_rfl, by (intro W hS; go_simp; first | done | with_reducible rfl | rfl)⟩) ⟨hb5, hw5⟩ ?_
          (try simp only [Act.put, List.getElem_toArray, List.getElem_cons_zero, List.getElem_cons_succ, List.setIfInBounds_toArray, List.set_cons_zero, List.set_cons_succ])
          refine wpAnyH_take (i := 11) (v := .int .i64 (1 + (r2 : Int))) rfl (by kernel_rfl) (by kernel_rfl) (by kernel_rfl) (fun _ _ _ h => h) (Or.inl ⟨by kernel_rfl, by (intro W hS; go_simp; first | done | with_reducible rfl | rfl)⟩) ⟨hb5, hw5⟩ ?_
          (try simp only [Act.put, List.getElem_toArray, List.getElem_cons_zero, List.getElem_cons_succ, List.setIfInBounds_toArray, List.set_cons_zero, List.set_cons_succ])
          refine wpAnyH_take (i := 12) (v := .int .i64 (pick3 0 16 17 r3)) rfl (by kernel_rfl) (by kernel_rfl) (by kernel_rfl) (fun _ _ _ h => h) (Or.inl ⟨by kernel_rfl, by (intro W hS; go_simp; first | done | with_reducible rfl | rfl)⟩) ⟨hb5, hw5⟩ ?_
          (try simp only [Act.put, List.getElem_toArray, List.getElem_cons_zero, List.getElem_cons_succ, List.setIfInBounds_toArray, List.set_cons_zero, List.set_cons_succ])
          refine wpAnyH_done (by kernel_rfl) ?_ _
          go_wp2
          go_ret3
          exact ⟨(r1 : Int), (1 + (r2 : Int)), (pick3 0 16 17 r3), rfl, by first | omega | exact pick3_bd _ (by omega) (by omega) (by omega), by first | omega | exact pick3_bd _ (by omega) (by omega) (by omega), by first | omega | exact pick3_bd _ (by omega) (by omega) (by omega), hb5⟩
        refine AllReadyH.cons rfl (fun K hK => ?_) AllReadyH.nil
        · go_simp
          go_at_call 66
          refine (pick_any hr2 (n := 3) (by omega) (by omega) (by omega)).mono ?_
          rintro e v7 ⟨r3, rfl, hlt7, hr7, hg7⟩
          have hb7 := hb2.trans (below_of_grown hg7 (Nat.le_refl _) hb2.size)
          try go_simp
          refine hK.out _ _ hb7 (fun hHeld => ?_)
          clear hK K hHeld
          refine wpAnyH_take (i := 10) (v := .int .i64 (r1 : Int)) rfl (by kernel_rfl) (by kernel_rfl) (by kernel_rfl) (fun _ _ _ h => h) (Or.inl ⟨by kernel_rfl, by (intro W hS; go_simp; first | done | with_reducible rfl | rfl)⟩) hb7 ?_
          (try simp only [Act.put, List.getElem_toArray, List.getElem_cons_zero, List.getElem_cons_succ, List.setIfInBounds_toArray, List.set_cons_zero, List.set_cons_succ])
          refine wpAnyH_take (i := 11) (v := .int .i64 (1 + (r2 : Int))) rfl (by kernel_rfl) (by kernel_rfl) (by kernel_rfl) (fun _ _ _ h => h) (Or.inl ⟨by kernel_rfl, by (intro W hS; go_simp; first | done | with_reducible rfl | rfl)⟩) hb7 ?_
          (try simp only [Act.put, List.getElem_toArray, List.getElem_cons_zero, List.getElem_cons_succ, List.setIfInBounds_toArray, List.set_cons_zero, List.set_cons_succ])
          refine wpAnyH_ready (rs := [5]) (by kernel_rfl) (by simp) ?_
          refine AllReadyH.cons rfl (fun K hK => ?_) AllReadyH.nil
          go_simp
          have hb8 : Below w.heap.size w (v7.alloc (.cells #[.int .i64 0, .int .i64 16, .int .i64 17] 3)) := hb7.alloc hb7.size _
          have hr8 : RdD (v7.alloc (.cells #[.int .i64 0, .int .i64 16, .int .i64 17] 3)) w.heap.size L _ := hr7.below ((Below.refl _ _).alloc (Nat.le_refl _) _)
          refine hK.out _ _ hb8 (fun hHeld => ?_)
          clear hK K hHeld
          have hlb8 : w.heap.size < v7.heap.size := hr7.lt
          have hw08 : Row (v7.alloc (.cells #[.int .i64 0, .int .i64 16, .int .i64 17] 3)) v7.heap.size 3 [.int .i64 0, .int .i64 16, .int .i64 17] := Row.new _ _ _
          obtain ⟨blk, hblk⟩ : ∃ n, n = v7.heap.size := ⟨_, rfl⟩
          rw [← hblk] at hlb8 hw08
          try simp only [World.drew_heap_size] at hblk
          simp only [← hblk]
          refine wpAnyH_weaken (S' := fun W => Below w.heap.size w W ∧ Row W blk 3 [.int .i64 0, .int .i64 16, .int .i64 17]) (fun _ h => h.1) _ _ _ _ ?_
          generalize v7.alloc _ = v8 at *
          clear hblk
          have ra9 : (r3 : Int) < 3 := by omega
          have rb9 : (0 : Int) ≤ (r3 : Int) := by omega
          refine' wpAnyH_take (i := 8) (v := _) rfl (by kernel_rfl) (by kernel_rfl) (by kernel_rfl) (fun _ _ _ h => h) (Or.inl ⟨by kernel_rfl, by (intro W hS; go_simp; first | done | with_reducible rfl | rfl)⟩) ⟨hb8, hw08⟩ ?_
          (try simp only [Act.put, List.getElem_toArray, List.getElem_cons_zero, List.getElem_cons_succ, List.setIfInBounds_toArray, List.set_cons_zero, List.set_cons_succ])
          refine wpAnyH_take (i := 9) (v := .int .i64 (pick3 0 16 17 r3)) rfl (by kernel_rfl) (by kernel_rfl) (by kernel_rfl) (fun _ _ _ h => h) (Or.inl ⟨by kernel_rfl, by (intro W hS; have y := (hS.2.cell r3).trans (pick3_at _ _ _ r3 (by omega)); have yl := hS.2.lt; go_simp; first | done | with_reducible rfl | rfl)⟩) ⟨hb8, hw08⟩ ?_
          (try simp only [Act.put, List.getElem_toArray, List.getElem_cons_zero, List.getElem_cons_succ, List.setIfInBounds_toArray, List.set_cons_zero, List.set_cons_succ])
          refine wpAnyH_take (i := 12) (v := .int .i64 (pick3 0 16 17 r3)) rfl (by kernel_rfl) (by kernel_rfl) (by kernel_rfl) (fun _ _ _ h => h) (Or.inl ⟨by kernel_rfl, by (intro W hS; go_simp; first | done | with_reducible rfl | rfl)⟩) ⟨hb8, hw08⟩ ?_
          (try simp only [Act.put, List.getElem_toArray, List.getElem_cons_zero, List.getElem_cons_succ, List.setIfInBounds_toArray, List.set_cons_zero, List.set_cons_succ])
          refine wpAnyH_done (by kernel_rfl) ?_ _
          go_wp2
          go_ret3
          exact ⟨(r1 : Int), (1 + (r2 : Int)), (pick3 0 16 17 r3), rfl, by first | omega | exact pick3_bd _ (by omega) (by omega) (by omega), by first | omega | exact pick3_bd _ (by omega) (by omega) (by omega), by first | omega | exact pick3_bd _ (by omega) (by omega) (by omega), hb8⟩
      refine AllReadyH.cons rfl (fun K hK => ?_) AllReadyH.nil
      · go_simp
        have hb10 : Below w.heap.size w (v1.alloc (.cells #[.int .i64 0, .int .i64 16, .int .i64 17] 3)) := hb1.alloc hb1.size _
        have hr10 : RdD (v1.alloc (.cells #[.int .i64 0, .int .i64 16, .int .i64 17] 3)) w.heap.size L _ := hr1.below ((Below.refl _ _).alloc (Nat.le_refl _) _)
        refine hK.out _ _ hb10 (fun hHeld => ?_)
        clear hK K hHeld
        have hlb10 : w.heap.size < v1.heap.size := hr1.lt
        have hw010 : Row (v1.alloc (.cells #[.int .i64 0, .int .i64 16, .int .i64 17] 3)) v1.heap.size 3 [.int .i64 0, .int .i64 16, .int .i64 17] := Row.new _ _ _
        obtain ⟨blk, hblk⟩ : ∃ n, n = v1.heap.size := ⟨_, rfl⟩
        rw [← hblk] at hlb10 hw010
        try simp only [World.drew_heap_size] at hblk
        simp only [← hblk]
        refine wpAnyH_weaken (S' := fun W => Below w.heap.size w W ∧ Row W blk 3 [.int .i64 0, .int .i64 16, .int .i64 17]) (fun _ h => h.1) _ _ _ _ ?_
        generalize v1.alloc _ = v10 at *
        clear hblk
        refine wpAnyH_ready (rs := [3]) (by kernel_rfl) (by simp) ?_
        refine AllReadyH.cons rfl (fun K hK => ?_) AllReadyH.nil
        go_simp
        go_at_call 66
        refine (pick_any hr10 (n := 8) (by omega) (by omega) (by omega)).mono ?_
        rintro e v11 ⟨r2, rfl, hlt11, hr11, hg11⟩
        have hb11 := hb10.trans (below_of_grown hg11 (Nat.le_refl _) hb10.size)
        have hw11 := hw010.grown hg11 (fun e => by injection e with e; omega)
        try go_simp
        refine hK.out _ _ ⟨hb11, hw11⟩ (fun hHeld => ?_)
        clear hK K hHeld
        have ka12 : IntKind.i64.wrap (1 + (r2 : Int)) = 1 + (r2 : Int) := wrapI _ (by omega) (by omega)
        have kb12 : wrap64 (1 + (r2 : Int)) = 1 + (r2 : Int) := by unfold wrap64; omega
        refine wpAnyH_take (i := 4) (v := .int .i64 (1 + (r2 : Int))) rfl (by kernel_rfl) (by kernel_rfl) (by kernel_rfl) (fun _ _ _ h => h) (Or.inl ⟨by kernel_rfl, by (intro W hS; go_simp; first | done | with_reducible rfl | rfl)⟩) ⟨hb11, hw11⟩ ?_
        (try simp only [Act.put, List.getElem_toArray, List.getElem_cons_zero, List.getElem_cons_succ, List.setIfInBounds_toArray, List.set_cons_zero, List.set_cons_succ])
        refine wpAnyH_ready (rs := [7]) (by kernel_rfl) (by simp) ?_
        refine AllReadyH.cons rfl (fun K hK => ?_) AllReadyH.nil
        go_simp
        go_at_call 66
        refine (pick_any hr11 (n := 3) (by omega) (by omega) (by omega)).mono ?_
        rintro e v13 ⟨r3, rfl, hlt13, hr13, hg13⟩
        have hb13 := hb11.trans (below_of_grown hg13 (Nat.le_refl _) hb11.size)
        have hw13 := hw11.grown hg13 (fun e => by injection e with e; omega)
        try go_simp
        refine hK.out _ _ ⟨hb13, hw13⟩ (fun hHeld => ?_)
        clear hK K hHeld
        have ra14 : (r3 : Int) < 3 := by omega
        have rb14 : (0 : Int) ≤ (r3 : Int) := by omega
        refine' wpAnyH_take (i := 8) (v := _) rfl (by kernel_rfl) (by kernel_rfl) (by kernel_rfl) (fun _ _ _ h => h) (Or.inl ⟨by kernel_rfl, by (intro W hS; go_simp; first | done | with_reducible rfl | rfl)⟩) ⟨hb13, hw13⟩ ?_
        (try simp only [Act.put, List.getElem_toArray, List.getElem_cons_zero, List.getElem_cons_succ, List.setIfInBounds_toArray, List.set_cons_zero, List.set_cons_succ])
        refine wpAnyH_take (i := 9) (v := .int .i64 (pick3 0 16 17 r3)) rfl (by kernel_rfl) (by kernel_rfl) (by kernel_rfl) (fun _ _ _ h => h) (Or.inl ⟨by kernel_rfl, by (intro W hS; have y := (hS.2.cell r3).trans (pick3_at _ _ _ r3 (by omega)); have yl := hS.2.lt; go_simp; first | done | with_reducible rfl | rfl)⟩) ⟨hb13, hw13⟩ ?_
        (try simp only [Act.put, List.getElem_toArray, List.getElem_cons_zero, List.getElem_cons_succ, List.setIfInBounds_toArray, List.set_cons_zero, List.set_cons_succ])
        refine wpAnyH_take (i := 10) (v := .int .i64 (r1 : Int)) rfl (by kernel_rfl) (by kernel_rfl) (by kernel_rfl) (fun _ _ _ h => h) (Or.inl ⟨by kernel_rfl, by (intro W hS; go_simp; first | done | with_reducible rfl | rfl)⟩) ⟨hb13, hw13⟩ ?_
        (try simp only [Act.put, List.getElem_toArray, List.getElem_cons_zero, List.getElem_cons_succ, List.setIfInBounds_toArray, List.set_cons_zero, List.set_cons_succ])
        refine wpAnyH_take (i := 11) (v := .int .i64 (1 + (r2 : Int))) rfl (by kernel_rfl) (by kernel_rfl) (by kernel_rfl) (fun _ _ _ h => h) (Or.inl ⟨by kernel_rfl, by (intro W hS; go_simp; first | done | with_reducible rfl | rfl)⟩) ⟨hb13, hw13⟩ ?_
        (try simp only [Act.put, List.getElem_toArray, List.getElem_cons_zero, List.getElem_cons_succ, List.setIfInBounds_toArray, List.set_cons_zero, List.set_cons_succ])
        refine wpAnyH_take (i := 12) (v := .int .i64 (pick3 0 16 17 r3)) rfl (by kernel_rfl) (by kernel_rfl) (by kernel_rfl) (fun _ _ _ h => h) (Or.inl ⟨by kernel_rfl, by (intro W hS; go_simp; first | done | with_reducible rfl | rfl)⟩) ⟨hb13, hw13⟩ ?_
        (try simp only [Act.put, List.getElem_toArray, List.getElem_cons_zero, List.getElem_cons_succ, List.setIfInBounds_toArray, List.set_cons_zero, List.set_cons_succ])
        refine wpAnyH_done (by kernel_rfl) ?_ _
        go_wp2
        go_ret3
        exact ⟨(r1 : Int), (1 + (r2 : Int)), (pick3 0 16 17 r3), rfl, by first | omega | exact pick3_bd _ (by omega) (by omega) (by omega), by first | omega | exact pick3_bd _ (by omega) (by omega) (by omega), by first | omega | exact pick3_bd _ (by omega) (by omega) (by omega), hb13⟩
    refine AllReadyH.cons rfl (fun K hK => ?_) AllReadyH.nil
    · go_simp
      have hb15 : Below w.heap.size w (w4.alloc (.cells #[.int .i64 0, .int .i64 16, .int .i64 17] 3)) := hb0.alloc hb0.size _
      have hr15 : RdD (w4.alloc (.cells #[.int .i64 0, .int .i64 16, .int .i64 17] 3)) w.heap.size L _ := hr0.below ((Below.refl _ _).alloc (Nat.le_refl _) _)
      refine hK.out _ _ hb15 (fun hHeld => ?_)
      clear hK K hHeld
      have hlb15 : w.heap.size < w4.heap.size := hr0.lt
      have hw015 : Row (w4.alloc (.cells #[.int .i64 0, .int .i64 16, .int .i64 17] 3)) w4.heap.size 3 [.int .i64 0, .int .i64 16, .int .i64 17] := Row.new _ _ _
      obtain ⟨blk, hblk⟩ : ∃ n, n = w4.heap.size := ⟨_, rfl⟩
      rw [← hblk] at hlb15 hw015
      try simp only [World.drew_heap_size] at hblk
      simp only [← hblk]
      refine wpAnyH_weaken (S' := fun W => Below w.heap.size w W ∧ Row W blk 3 [.int .i64 0, .int .i64 16, .int .i64 17]) (fun _ h => h.1) _ _ _ _ ?_
      generalize w4.alloc _ = v15 at *
      clear hblk
      refine wpAnyH_ready (rs := [1]) (by kernel_rfl) (by simp) ?_
      refine AllReadyH.cons rfl (fun K hK => ?_) AllReadyH.nil
      go_simp
      go_at_call 66
      refine (pick_any hr15 (n := 9) (by omega) (by omega) (by omega)).mono ?_
      rintro e v16 ⟨r1, rfl, hlt16, hr16, hg16⟩
      have hb16 := hb15.trans (below_of_grown hg16 (Nat.le_refl _) hb15.size)
      have hw16 := hw015.grown hg16 (fun e => by injection e with e; omega)
      try go_simp
      refine hK.out _ _ ⟨hb16, hw16⟩ (fun hHeld => ?_)
      clear hK K hHeld
      refine wpAnyH_ready (rs := [3]) (by kernel_rfl) (by simp) ?_
      refine AllReadyH.cons rfl (fun K hK => ?_) AllReadyH.nil
      go_simp
      go_at_call 66
      refine (pick_any hr16 (n := 8) (by omega) (by omega) (by omega)).mono ?_
      rintro e v17 ⟨r2, rfl, hlt17, hr17, hg17⟩
      have hb17 := hb16.trans (below_of_grown hg17 (Nat.le_refl _) hb16.size)
      have hw17 := hw16.grown hg17 (fun e => by injection e with e; omega)
      try go_simp
      refine hK.out _ _ ⟨hb17, hw17⟩ (fun hHeld => ?_)
      clear hK K hHeld
      have ka18 : IntKind.i64.wrap (1 + (r2 : Int)) = 1 + (r2 : Int) := wrapI _ (by omega) (by omega)
      have kb18 : wrap64 (1 + (r2 : Int)) = 1 + (r2 : Int) := by unfold wrap64; omega
      refine wpAnyH_take (i := 4) (v := .int .i64 (1 + (r2 : Int))) rfl (by kernel_rfl) (by kernel_rfl) (by kernel_rfl) (fun _ _ _ h => h) (Or.inl ⟨by kernel_rfl, by (intro W hS; go_simp; first | done | with_reducible rfl | rfl)⟩) ⟨hb17, hw17⟩ ?_
      (try simp only [Act.put, List.getElem_toArray, List.getElem_cons_zero, List.getElem_cons_succ, List.setIfInBounds_toArray, List.set_cons_zero, List.set_cons_succ])
      refine wpAnyH_ready (rs := [7]) (by kernel_rfl) (by simp) ?_
      refine AllReadyH.cons rfl (fun K hK => ?_) AllReadyH.nil
      go_simp
      go_at_call 66
      refine (pick_any hr17 (n := 3) (by omega) (by omega) (by omega)).mono ?_
      rintro e v19 ⟨r3, rfl, hlt19, hr19, hg19⟩
      have hb19 := hb17.trans (below_of_grown hg19 (Nat.le_refl _) hb17.size)
      have hw19 := hw17.grown hg19 (fun e => by injection e with e; omega)
      try go_simp
      refine hK.out _ _ ⟨hb19, hw19⟩ (fun hHeld => ?_)
      clear hK K hHeld
      have ra20 : (r3 : Int) < 3 := by omega
      have rb20 : (0 : Int) ≤ (r3 : Int) := by omega
      refine' wpAnyH_take (i := 8) (v := _) rfl (by kernel_rfl) (by kernel_rfl) (by kernel_rfl) (fun _ _ _ h => h) (Or.inl ⟨by kernel_rfl, by (intro W hS; go_simp; first | done | with_reducible rfl | rfl)⟩) ⟨hb19, hw19⟩ ?_
      (try simp only [Act.put, List.getElem_toArray, List.getElem_cons_zero, List.getElem_cons_succ, List.setIfInBounds_toArray, List.set_cons_zero, List.set_cons_succ])
      refine wpAnyH_take (i := 9) (v := .int .i64 (pick3 0 16 17 r3)) rfl (by kernel_rfl) (by kernel_rfl) (by kernel_rfl) (fun _ _ _ h => h) (Or.inl ⟨by kernel_rfl, by (intro W hS; have y := (hS.2.cell r3).trans (pick3_at _ _ _ r3 (by omega)); have yl := hS.2.lt; go_simp; first | done | with_reducible rfl | rfl)⟩) ⟨hb19, hw19⟩ ?_
      (try simp only [Act.put, List.getElem_toArray, List.getElem_cons_zero, List.getElem_cons_succ, List.setIfInBounds_toArray, List.set_cons_zero, List.set_cons_succ])
      refine wpAnyH_take (i := 10) (v := .int .i64 (r1 : Int)) rfl (by kernel_rfl) (by kernel_rfl) (by kernel_rfl) (fun _ _ _ h => h) (Or.inl ⟨by kernel_rfl, by (intro W hS; go_simp; first | done | with_reducible rfl | rfl)⟩) ⟨hb19, hw19⟩ ?_
      (try simp only [Act.put, List.getElem_toArray, List.getElem_cons_zero, List.getElem_cons_succ, List.setIfInBounds_toArray, List.set_cons_zero, List.set_cons_succ])
      refine wpAnyH_take (i := 11) (v := .int .i64 (1 + (r2 : Int))) rfl (by kernel_rfl) (by kernel_rfl) (by kernel_rfl) (fun _ _ _ h => h) (Or.inl ⟨by kernel_rfl, by (intro W hS; go_simp; first | done | with_reducible rfl | rfl)⟩) ⟨hb19, hw19⟩ ?_
      (try simp only [Act.put, List.getElem_toArray, List.getElem_cons_zero, List.getElem_cons_succ, List.setIfInBounds_toArray, List.set_cons_zero, List.set_cons_succ])
      refine wpAnyH_take (i := 12) (v := .int .i64 (pick3 0 16 17 r3)) rfl (by kernel_rfl) (by kernel_rfl) (by kernel_rfl) (fun _ _ _ h => h) (Or.inl ⟨by kernel_rfl, by (intro W hS; go_simp; first | done | with_reducible rfl | rfl)⟩) ⟨hb19, hw19⟩ ?_
      (try simp only [Act.put, List.getElem_toArray, List.getElem_cons_zero, List.getElem_cons_succ, List.setIfInBounds_toArray, List.set_cons_zero, List.set_cons_succ])
      refine wpAnyH_done (by kernel_rfl) ?_ _
      go_wp2
      go_ret3
      exact ⟨(r1 : Int), (1 + (r2 : Int)), (pick3 0 16 17 r3), rfl, by first | omega | exact pick3_bd _ (by omega) (by omega) (by omega), by first | omega | exact pick3_bd _ (by omega) (by omega) (by omega), by first | omega | exact pick3_bd _ (by omega) (by omega) (by omega), hb19⟩
  have n2 : ((r : Int) == 2) = false := beqf' (by omega)
  have m2 : ¬ ((r : Int) = 2) := by omega
  have HP := hide (pick_any HR.out (n := 60) (by omega) (by omega) (by omega))
  clear HR
  go_wp2_with fail
  refine HP.out.mono ?_
  rintro e w5 ⟨q1, rfl, hq1, h5, hg5⟩
  have HB5 := hide (HB.out.trans (below_of_grown hg5 (Nat.le_refl _) HB.out.size))
  have HP := hide (pick_any h5 (n := 8) (by omega) (by omega) (by omega))
  clear h5 hg5 HB
  go_wp2_with fail
  refine HP.out.mono ?_
  rintro e w6 ⟨q2, rfl, hq2, h6, hg6⟩
  have HB6 := hide (HB5.out.trans (below_of_grown hg6 (Nat.le_refl _) HB5.out.size))
  have HP := hide (pick_any h6 (n := 16) (by omega) (by omega) (by omega))
  clear h6 hg6 HB5
  go_wp2_with fail
  refine HP.out.mono ?_
  rintro e w7 ⟨q3, rfl, hq3, h7, hg7⟩
  have HB7 := hide (HB6.out.trans (below_of_grown hg7 (Nat.le_refl _) HB6.out.size))
  clear h7 hg7 HB6
  go_wp2
  go_ret3
  exact ⟨(q1 : Int), 1 + (q2 : Int), 1 + (q3 : Int), rfl, by omega, by omega, by omega, HB7.out⟩
end Go.Proofs.Ytpkjjfnfolbcoaa
