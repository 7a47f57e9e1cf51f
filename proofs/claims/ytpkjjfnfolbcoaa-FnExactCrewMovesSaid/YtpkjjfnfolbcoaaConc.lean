/-
  slices.Grow at nil, slices.Concat at two slices of numbers.
-/
import Derived.Test.YtpkjjfnfolbcoaaCrewW3
import Derived.Test.YtpkjjfnfolbcoaaShelf
set_option linter.unusedVariables false
set_option linter.unusedSimpArgs false
namespace Go.Proofs.Ytpkjjfnfolbcoaa
open Go.ChangeShapes Go.WideShapes Go.ChangeAt Go.RowKit

theorem Pl.from {B B' : Nat} {W0 W1 W : World} {v : Value} {l : List Int} {us : List Value} (h : Pl B' W1 W v l us) (hb : Below B W0 W1) (hB : B ≤ B') : Pl B W0 W v l us :=
  ⟨⟨⟨h.own.own.1, h.own.own.2.imp id fun ⟨g, cap, cur, e, h1, r⟩ => ⟨g, cap, cur, e, Nat.le_trans hB h1, r⟩⟩, h.own.cells, h.own.new.mono hB, h.own.out⟩, hb.trans (h.fr.mono hB), Nat.le_trans hB h.sz⟩
theorem growNil_any (n : Nat) (hn : n ≤ 4096) (w : World) :
    Calls Try.prog 193 #[.slice none 0 0, .int .i64 (n : Int)] w fun e w' => ∃ A m c, e = .returned (.slice A m c) ∧ Pl w.heap.size w w' (.slice A m c) [] [] := by
  by_cases h0 : n = 0
  · subst h0
    refine (Any8.slices_Grow_room Try.growI none 0 0 0 w (Nat.le_refl _) (by omega) (by omega) (by omega)).mono ?_
    rintro e w' ⟨rfl, rfl⟩
    exact ⟨_, _, _, rfl, ⟨OwS.nil _ _ _ _ _, Below.refl _ _, Nat.le_refl _⟩⟩
  · obtain ⟨i, hi, hi0, hi1, hi2⟩ := info_parts info_int
    refine (Any8.slices_Grow_grow Try.growI i (.int .i64 0) hi hi0 (by rw [hi1]; omega) none 0 0 n [] w (Nat.le_refl _) (by omega) (by rw [hi2]; omega) (by omega) (by simp) (fun _ => rfl) (fun a h => by cases h)).mono ?_
    rintro e w' ⟨rfl, rfl⟩
    refine ⟨_, _, _, rfl, ⟨⟨World.ownsRow_made w.drew _ _ (Nat.le_refl _) (grownCap_le_maxLen _ _ _ _ (by unfold maxLen; omega)) ?_, by simp [OwC], New.nil _ _, fun g h => by simp⟩, ?_, ?_⟩⟩
    · have hge := grownCap_ge w (0 + n) 0 (Try.growI_ren.t 25)
      simp [Builtin.zeroCells, Value.cells] at hge ⊢
      omega
    · exact (below_drewN (Below.refl _ _) 1).alloc (Nat.le_refl _) _
    · rw [World.size_alloc]; exact Nat.le_succ _
set_option maxRecDepth 100000 in
set_option maxHeartbeats 2000000 in
theorem concat2_any (xs ys : List Int) (A1 A2 : Option Addr) (c1 c2 : Nat) (f1 f2 : List Nat) (b : Nat) (T : TypeId) (w : World) (hr : Row w b T [.slice A1 xs.length c1, .slice A2 ys.length c2])
    (o1 : Ow w (.s 1 xs.length (xs.flatMap intC)) (.slice A1 xs.length c1) f1) (o2 : Ow w (.s 1 ys.length (ys.flatMap intC)) (.slice A2 ys.length c2) f2) (l1 : Lt f1 w.heap.size) (l2 : Lt f2 w.heap.size) (hx : xs.length ≤ 64) (hy : ys.length ≤ 64) :
    Calls Try.prog 177 #[.slice (some ⟨b, 0, none⟩) 2 2] w fun e w' => ∃ A n c us, e = .returned (.slice A n c) ∧ Pl w.heap.size w w' (.slice A n c) (xs ++ ys) us := by
  have HR := hide hr
  have O1 := hide o1
  have O2 := hide o2
  have hbl := hr.lt
  have x0 := hr.cell 0
  have x1 := hr.cell 1
  clear hr o1 o2
  obtain ⟨ia, hia, ja0, ja1, ja2⟩ := info_parts info_int
  have HIa := hide hia
  clear hia
  obtain ⟨n, hn⟩ : ∃ n, n = xs.length + ys.length := ⟨_, rfl⟩
  have HN := hide hn
  have hn8 : n ≤ 128 := by omega
  have hs : IntKind.i64.wrap ((xs.length : Int) + (ys.length : Int)) = (n : Int) := by rw [wrapI _ (by omega) (by omega)]; omega
  have hs' : wrap64 ((xs.length : Int) + (ys.length : Int)) = (n : Int) := by unfold wrap64; omega
  clear hn
  have HG := hide (growNil_any n (by omega) w)
  go_enter Try.func177, Try.ntmps177
  go_wp2
  go_loopw [3, 11] (fun s i wr => ((i = .int .i64 0 ∧ s = .int .i64 0) ∨ (i = .int .i64 1 ∧ s = .int .i64 xs.length) ∨ (i = .int .i64 2 ∧ s = .int .i64 (n : Int))) ∧ wr = w) (fun _ i _ => 2 - (intOf i).toNat)
  case atStart => exact ⟨.inl ⟨rfl, rfl⟩, rfl⟩
  case round =>
    obtain ⟨⟨rfl, rfl⟩ | ⟨rfl, rfl⟩ | ⟨rfl, rfl⟩, rfl⟩ := hrel
    · go_wp2
      go_roundw
      case rel => exact ⟨.inr (.inl ⟨rfl, rfl⟩), by trivial⟩
      case measure => simp [intOf]
    · go_wp2
      go_roundw
      case rel => exact ⟨.inr (.inr ⟨rfl, rfl⟩), by trivial⟩
      case measure => simp [intOf]
    · go_wp2_with fail
      refine HG.out.mono ?_
      rintro e w2 ⟨A, m, c, rfl, hp⟩
      have HP0 := hide hp
      clear hp
      go_wp2_with fail
      go_loopw [6, 27] (fun v i wr2 => ∃ B k d us, v = .slice B k d ∧ ((i = .int .i64 0 ∧ Pl wr.heap.size wr wr2 (.slice B k d) [] us) ∨ (i = .int .i64 1 ∧ Pl wr.heap.size wr wr2 (.slice B k d) xs us) ∨ (i = .int .i64 2 ∧ Pl wr.heap.size wr wr2 (.slice B k d) (xs ++ ys) us))) (fun _ i _ => 2 - (intOf i).toNat)
      case atStart => exact ⟨_, _, _, _, rfl, .inl ⟨rfl, HP0.out⟩⟩
      case round =>
        obtain ⟨B, k, d, us, rfl, ⟨rfl, hp⟩ | ⟨rfl, hp⟩ | ⟨rfl, hp⟩⟩ := hrel
        · have HPR := hide hp
          have y0 := (HR.out.below hp.fr hbl).cell 0
          have hbl2 := (HR.out.below hp.fr hbl).lt
          have HQ := hide (O1.out.below hp.fr l1)
          obtain ⟨uq, hq1, hq2⟩ := HQ.out.srcInts
          have HQ1 := hide hq1
          have HQ2 := hide hq2
          clear hq1 hq2 hp
          go_wp2_with (first | (at_builtin; refine wpl_app rfl _ _ 22 rfl ia _ 8 Try.underlying22 HIa.out ja0 ja1 ja2 rfl (by decide) intC_len rfl HPR.out.own xs HQ1.out (by exact New.nil _ _) (fun q _ hq => by cases hq) _ _ _ rfl rfl HQ2.out (by first | omega | (simp only [List.length_append, List.length_take, List.length_singleton, List.length_nil, List.length_cons]; omega)) (by decide) HPR.out.sz ?_; intro w5A w5n w5c w5 hn5 hown5 hgb5; have HP5 := hide (HPR.out.put hgb5 hown5); clear hown5 hgb5 hn5) | fail)
          go_roundw
          case rel => exact ⟨_, _, _, _, rfl, .inr (.inl ⟨rfl, HP5.out.same (List.nil_append _)⟩)⟩
          case measure => simp [intOf]
        · have HPR := hide hp
          have y1 := (HR.out.below hp.fr hbl).cell 1
          have hbl2 := (HR.out.below hp.fr hbl).lt
          have HQ := hide (O2.out.below hp.fr l2)
          obtain ⟨uq, hq1, hq2⟩ := HQ.out.srcInts
          have HQ1 := hide hq1
          have HQ2 := hide hq2
          clear hq1 hq2 hp
          go_wp2_with (first | (at_builtin; refine wpl_app rfl _ _ 22 rfl ia _ 8 Try.underlying22 HIa.out ja0 ja1 ja2 rfl (by decide) intC_len rfl HPR.out.own ys HQ1.out (by exact New.nil _ _) (fun q _ hq => by cases hq) _ _ _ rfl rfl HQ2.out (by first | omega | (simp only [List.length_append, List.length_take, List.length_singleton, List.length_nil, List.length_cons]; omega)) (by decide) HPR.out.sz ?_; intro w5A w5n w5c w5 hn5 hown5 hgb5; have HP5 := hide (HPR.out.put hgb5 hown5); clear hown5 hgb5 hn5) | fail)
          go_roundw
          case rel => exact ⟨_, _, _, _, rfl, .inr (.inr ⟨rfl, HP5.out⟩)⟩
          case measure => simp [intOf]
        · have HPR := hide hp
          clear hp
          go_wp2
          go_ret
          exact ⟨_, _, _, _, rfl, HPR.out⟩
end Go.Proofs.Ytpkjjfnfolbcoaa
