/-
  Decimals: the reference's l6Dec.
-/
import Derived.Deep.RegionWith
import Derived.Test.YtddjgbhkfdpffaaGreatDoorWU8
import Derived.Test.YtddjgbhkfdpffaaGreatDoorWPlanT
import Derived.Test.YtddjgbhkfdpffaaGreatDoorWByt
set_option linter.unusedVariables false
set_option linter.unusedSimpArgs false
namespace Go.Proofs.YtddjgbhkfdpffaaGreatDoor
open Go.ChangeShapes Go.WideShapes Go.ChangeAt Go.RowKit

theorem conv_oneD {w : World} {g : Nat} {z : Int} {b : UInt8} (c : Nat) (hz : z = (b.toNat : Int)) (hc : w.cell? ⟨g, 0, none⟩ = some (.int .u8 z)) : (convert 59 9 (.slice (some ⟨g, 0, none⟩) 1 c)).run Tryz.prog w = .ok (.string (ba [b])) w := by
  subst hz
  refine run_convert_bytes_back w 59 9 5 ⟨g, 0, none⟩ c [b] Tryz.underlying59 Tryz.underlying5 Tryz.underlying9 (fun j hj => ?_)
  rw [Addr.add_lit]
  match j, hj with
  | 0, _ => exact hc
theorem size_daD (w : World) (o : Obj) : (w.alloc o).drew.heap.size = w.heap.size + 1 := World.size_alloc w o
theorem ba_one (b : UInt8) : ba [b] = ⟨#[b]⟩ := rfl
def DecN (f : Nat) : Prop := ∀ (n : Nat) (w : World), n < 10 ^ f → n ≤ 4611686018427387904 →
  Calls Tryz.prog 34 #[.int .i64 (n : Int)] w fun e w' => e = .returned (.string (dec n)) ∧ Below w.heap.size w w'
set_option maxRecDepth 100000 in
set_option maxHeartbeats 2000000 in
theorem decN_of (f : Nat) (ih : ∀ f', f = f' + 1 → DecN f') : DecN f := by
  intro n w hf hn
  have h1 : ¬ ((n : Int) < -9223372036854775807) := by omega
  have h2 : ¬ ((n : Int) < 0) := by omega
  by_cases h10 : n < 10
  · have h10I : (n : Int) < 10 := by omega
    have hs : n + 48 < 256 := by omega
    obtain ⟨b, hb⟩ : ∃ b : UInt8, b = UInt8.ofNat (48 + n) := ⟨_, rfl⟩
    have hbn : (48 : Int) + (n : Int) = (b.toNat : Int) := by rw [hb, u8_nat _ (by omega)]; omega
    have HD := hide (show dec (n : Int) = ba [b] from by rw [dec_low (by omega) h10I, ba_one, hb, Int.toNat_natCast])
    have hcv := fun (u : World) (c : Nat) => conv_oneD (w := u.alloc (.cells #[.int .u8 (b.toNat : Int)] 5)) (g := u.heap.size) (b := b) c rfl (by simp)
    have HB := hide (fun (o : Obj) => (Below.refl w.heap.size w).alloc (Nat.le_refl _) o)
    clear hb ih
    go_enter Tryz.func34, Tryz.ntmps34
    go_wp2
    go_ret
    exact ⟨ret_str HD.out.symm, HB.out _⟩
  · obtain ⟨f, rfl⟩ : ∃ f', f = f' + 1 := by
      cases f with
      | zero => simp at hf; omega
      | succ f => exact ⟨f, rfl⟩
    have h10I : ¬ ((n : Int) < 10) := by omega
    obtain ⟨q, hq⟩ : ∃ q, n / 10 = q := ⟨_, rfl⟩
    obtain ⟨d, hd⟩ : ∃ d, n % 10 = d := ⟨_, rfl⟩
    have hqf : q < 10 ^ f := by rw [← hq]; rw [Nat.pow_succ] at hf; omega
    have hqn : q ≤ 4611686018427387904 := by omega
    obtain ⟨b, hb⟩ : ∃ b : UInt8, b = UInt8.ofNat (48 + d) := ⟨_, rfl⟩
    have hbn : b.toNat = 48 + d := by rw [hb]; exact u8_nat _ (by omega)
    have HD := hide (show dec (n : Int) = dec (q : Int) ++ ba [b] from by
      rw [dec_high (by omega), ba_one, hb, show (n : Int) / 10 = (q : Int) by omega, show ((n : Int) % 10).toNat = d by omega])
    have t1 : Int.tdiv (n : Int) 10 = (q : Int) := by rw [← hq]; exact (Int.ofNat_tdiv _ 10).symm
    have t2 : Int.tmod (n : Int) 10 = (d : Int) := by rw [← hd]; exact (Int.ofNat_tmod _ 10).symm
    have t3 : IntKind.i64.wrap (q : Int) = (q : Int) := wrapI _ (by omega) (by omega)
    have t4 : IntKind.i64.wrap (48 + (d : Int)) = (b.toNat : Int) := by rw [wrapI _ (by omega) (by omega)]; omega
    have t5 : IntKind.u8.wrap (b.toNat : Int) = (b.toNat : Int) := by have := b.toNat_lt; rw [IntKind.wrap_u8]; omega
    have hcv1 := fun (u : World) (c : Nat) => conv_oneD (w := u.alloc (.cells #[.int .u8 (b.toNat : Int)] 5)) (g := u.heap.size) (b := b) c rfl (by simp)
    have hcv2 := fun (u : World) (c : Nat) => conv_oneD (w := (u.alloc (.cells #[.int .u8 (b.toNat : Int)] 5)).drew) (g := u.heap.size) (b := b) c rfl (by simp)
    have hszd : (dec (q : Int)).size ≤ 20 := dec_size _ (by omega) (by omega)
    have hba1 : (ba [b]).size = 1 := rfl
    have hns : ¬ (9223372036854775807 < (dec (q : Int)).size + (ba [b]).size) := by omega
    have HI := hide (ih f rfl)
    have HB := hide (fun (o : Obj) => (Below.refl w.heap.size w).alloc (Nat.le_refl _) o)
    clear hb ih hq hd hbn
    go_enter Tryz.func34, Tryz.ntmps34
    go_wp2
    go_region_with (first
      | (go_at_call 34; (with_reducible show Calls _ _ _ (World.drew w) _); refine (HI.out q _ hqf hqn).mono ?_; rintro e w2 ⟨rfl, hb2⟩; have hbz := (Below.refl w.heap.size w).drew.trans hb2)
      | (go_at_call 34; (with_reducible show Calls _ _ _ (World.drew (World.alloc w _)) _); refine (HI.out q _ hqf hqn).mono ?_; rintro e w2 ⟨rfl, hb2⟩; have hbz : Below w.heap.size w w2 := ((Below.refl w.heap.size w).alloc (Nat.le_refl _) (.cells #[.int .u8 (b.toNat : Int)] 5)).drew.trans (hb2.mono (by rw [size_daD]; exact Nat.le_succ _)); have RZ := (show Row ((w.alloc (.cells #[.int .u8 (b.toNat : Int)] 5)).drew) w.heap.size 5 [.int .u8 (b.toNat : Int)] from Row.new w _ _).below hb2 (by rw [size_daD]; exact Nat.lt_succ_self _); have hcv3 := fun (c : Nat) => conv_oneD (w := w2) (g := w.heap.size) (b := b) c rfl (RZ.cell 0)))
    all_goals
      go_wp2_with fail
      go_ret
      first
        | exact ⟨ret_str HD.out.symm, hbz⟩
        | exact ⟨ret_str HD.out.symm, hbz.alloc hbz.size _⟩
theorem decN_any : ∀ f, DecN f
  | 0 => decN_of 0 (fun f' e => by cases e)
  | f + 1 => decN_of (f + 1) (fun f' e => by injection e with e; subst e; exact decN_any f)
theorem specDecN_any (n : Nat) (w : World) (hn : n ≤ 4611686018427387904) : Calls Tryz.prog 34 #[.int .i64 (n : Int)] w fun e w' => e = .returned (.string (dec n)) ∧ Below w.heap.size w w' :=
  decN_any 19 n w (by have e : (10 : Nat) ^ 19 = 10000000000000000000 := by decide
                      omega) hn
end Go.Proofs.YtddjgbhkfdpffaaGreatDoor
