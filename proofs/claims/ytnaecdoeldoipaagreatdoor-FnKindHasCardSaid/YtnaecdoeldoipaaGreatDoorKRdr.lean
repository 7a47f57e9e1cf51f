/-
  The draws of the reference: a reader of a code, and its picks. Readers of bytes: the reference's one, short and num.
-/
import Derived.Deep.RegionHeld3
import Derived.StillTailTactics
import Derived.BigQuiet
import Derived.Test.YtnaecdoeldoipaaGreatDoorKFirst
import Derived.Test.YtnaecdoeldoipaaGreatDoorKPackU
import Derived.Test.YtnaecdoeldoipaaGreatDoorKUnp
set_option linter.unusedVariables false
set_option linter.unusedSimpArgs false
namespace Go.Proofs.YtnaecdoeldoipaaGreatDoor
open Go.ChangeShapes Go.WideShapes Go.ChangeAt Go.RowKit

/-- the reader in block g: the bytes L, so many picks were made -/
def RdD (w : World) (g : Nat) (L : List UInt8) (k : Nat) : Prop := ∃ (A : Option Addr) (c : Nat) (fp : List Nat), Row w g 104 [.slice A L.length c, .int .i64 (k : Int)] ∧
  Ow w (.s 1 L.length (L.flatMap byteC)) (.slice A L.length c) fp ∧ Lt fp g ∧ L.length ≤ 2000
theorem RdD.lt {w : World} {g : Nat} {L : List UInt8} {k : Nat} (h : RdD w g L k) : g < w.heap.size := by
  obtain ⟨_, _, _, hr, _⟩ := h
  exact hr.lt
theorem RdD.low {w w' : World} {g : Nat} {L : List UInt8} {k B : Nat} (h : RdD w g L k) (hb : Below B w w') (hB : g < B) : RdD w' g L k := by
  obtain ⟨A, c, fp, hr, ho, hfp, hL⟩ := h
  exact ⟨A, c, fp, hr.below hb hB, ho.below hb (hfp.mono (Nat.le_of_lt hB)), hfp, hL⟩
theorem RdD.below {w w' : World} {g : Nat} {L : List UInt8} {k : Nat} (h : RdD w g L k) (hb : Below w.heap.size w w') : RdD w' g L k := h.low hb h.lt
def PickOut (g : Nat) (L : List UInt8) (k n : Nat) (w : World) (e : Ending) (w' : World) : Prop :=
  ∃ r : Nat, e = .returned (.int .i64 (r : Int)) ∧ r < n ∧ RdD w' g L (k + 1) ∧ w.grownBy w' (some g)
theorem xor_nat (a b : Nat) (ha : a < 9223372036854775808) (hb : b < 9223372036854775808) : bits .xor .i64 (a : Int) (b : Int) = ((a ^^^ b : Nat) : Int) := by
  have hx : a ^^^ b < 2 ^ 63 := Nat.xor_lt_two_pow (by omega) (by omega)
  have h1 : (BitVec.ofInt 64 (a : Int)).toNat = a := by
    rw [BitVec.ofInt_natCast, BitVec.toNat_ofNat]; exact Nat.mod_eq_of_lt (by omega)
  have h2 : (BitVec.ofInt 64 (b : Int)).toNat = b := by
    rw [BitVec.ofInt_natCast, BitVec.toNat_ofNat]; exact Nat.mod_eq_of_lt (by omega)
  show IntKind.i64.wrap ((BitVec.ofInt 64 (a : Int) ^^^ BitVec.ofInt 64 (b : Int)).toNat : Int) = _
  rw [BitVec.toNat_xor, h1, h2, IntKind.wrap_i64]
  omega
set_option maxRecDepth 100000 in
set_option maxHeartbeats 2000000 in
theorem pick_any {L : List UInt8} {k g n : Nat} {w : World} (h : RdD w g L k) (hk : k ≤ 1000000000) (hn : 1 ≤ n) (hn2 : n ≤ 1000000) :
    Calls Tryz.prog 48 #[.pointer (some ⟨g, 0, none⟩), .int .i64 (n : Int)] w (PickOut g L k n w) := by
  obtain ⟨A, c, fp, hr, ho, hfp, hL⟩ := h
  have r0 := hr.cell 0
  have r1 := hr.cell 1
  have lr := hr.lt
  have f1 := hr.frozen 1
  have HR := hide hr
  have HO := hide ho
  have hn' : ¬ ((n : Int) < 1) := by omega
  have HFIN := hide (fun (r : Nat) (W : World) (hW : w.grownBy W (some g)) (hrow : Row W g 104 [.slice A L.length c, .int .i64 ((k : Int) + 1)]) (hrn : r < n) => show PickOut g L k n w (.returned (.int .i64 (r : Int))) W from
    ⟨r, rfl, hrn, ⟨A, c, fp, by rw [show ((k + 1 : Nat) : Int) = (k : Int) + 1 by omega]; exact hrow, HO.out.below (below_of_grown hW (Nat.le_refl g) (Nat.le_of_lt lr)) hfp, hfp, hL⟩, hW⟩)
  have HN := hide hn
  clear hr ho
  by_cases h0 : L.length = 0
  · rw [h0] at r0
    go_enter Tryz.func48, Tryz.ntmps48
    go_wp2
    go_ret
    exact HFIN.out 0 _ (only_setCell (p := ⟨g, 1, none⟩) (grown_refl w (some g)) (.inl rfl) _) (HR.out.set 1 _) HN.out
  have hl0 : ¬ ((L.length : Int) = 0) := by omega
  have hlb : ((L.length : Int) == 0) = false := beq_eq_false_iff_ne.2 hl0
  have hnb : ¬ ((n : Int) = 0) := by omega
  by_cases hkl : k < L.length
  · obtain ⟨gb, off, rfl, hgm, hcell, -⟩ := bytes_at HO.out hkl
    have hgl := hfp gb hgm
    have hx := (L[k]).toNat_lt
    have hkI : (k : Int) < (L.length : Int) := by omega
    generalize L[k] = b at *
    obtain ⟨r, hr⟩ : ∃ r : Nat, b.toNat % n = r := ⟨_, rfl⟩
    have hmr : Int.tmod (b.toNat : Int) (n : Int) = (r : Int) := by rw [← hr]; exact (Int.ofNat_tmod _ _).symm
    have HRN := hide (show r < n by rw [← hr]; exact Nat.mod_lt _ hn)
    clear hr h0
    go_enter Tryz.func48, Tryz.ntmps48
    go_wp2
    go_ret
    exact HFIN.out r _ (only_setCell (p := ⟨g, 1, none⟩) (grown_refl w (some g)) (.inl rfl) _) (HR.out.set 1 _) HRN.out
  · obtain ⟨i1, hi1⟩ : ∃ i : Nat, k % L.length = i := ⟨_, rfl⟩
    obtain ⟨i2, hi2⟩ : ∃ i : Nat, (k * 7 + 3) % L.length = i := ⟨_, rfl⟩
    have h1l : i1 < L.length := by rw [← hi1]; exact Nat.mod_lt _ (by omega)
    have h2l : i2 < L.length := by rw [← hi2]; exact Nat.mod_lt _ (by omega)
    obtain ⟨gb, off, rfl, hgm, hcell, -⟩ := bytes_at HO.out h1l
    obtain ⟨gb', off', e, -, hcell2, -⟩ := bytes_at HO.out h2l
    injection e with e
    injection e with e1 e2 _
    subst e1 e2
    have hgl := hfp gb hgm
    have hx1 := (L[i1]).toNat_lt
    have hx2 := (L[i2]).toNat_lt
    generalize L[i1] = b1 at *
    generalize L[i2] = b2 at *
    obtain ⟨q, hq⟩ : ∃ q : Nat, k / L.length = q := ⟨_, rfl⟩
    have hqk : q ≤ k := by rw [← hq]; exact Nat.div_le_self _ _
    obtain ⟨k7, hk7⟩ : ∃ y : Nat, k * 7 = y := ⟨_, rfl⟩
    have Wk7 : IntKind.i64.wrap ((k : Int) * 7) = ((k7 : Nat) : Int) := by rw [wrapI _ (by omega) (by omega)]; omega
    obtain ⟨k73, hk73⟩ : ∃ y : Nat, k7 + 3 = y := ⟨_, rfl⟩
    have Wk73 : IntKind.i64.wrap ((k7 : Int) + 3) = ((k73 : Nat) : Int) := by rw [wrapI _ (by omega) (by omega)]; omega
    obtain ⟨xa, hxa⟩ : ∃ y : Nat, b1.toNat * 131 = y := ⟨_, rfl⟩
    have Wxa : IntKind.i64.wrap ((b1.toNat : Int) * 131) = ((xa : Nat) : Int) := by rw [wrapI _ (by omega) (by omega)]; omega
    obtain ⟨xb, hxb⟩ : ∃ y : Nat, b2.toNat * 1117 = y := ⟨_, rfl⟩
    have Wxb : IntKind.i64.wrap ((b2.toNat : Int) * 1117) = ((xb : Nat) : Int) := by rw [wrapI _ (by omega) (by omega)]; omega
    obtain ⟨xc, hxc⟩ : ∃ y : Nat, xa + xb = y := ⟨_, rfl⟩
    have Wxc : IntKind.i64.wrap ((xa : Int) + (xb : Int)) = ((xc : Nat) : Int) := by rw [wrapI _ (by omega) (by omega)]; omega
    obtain ⟨xd, hxd⟩ : ∃ y : Nat, k * 29 = y := ⟨_, rfl⟩
    have Wxd : IntKind.i64.wrap ((k : Int) * 29) = ((xd : Nat) : Int) := by rw [wrapI _ (by omega) (by omega)]; omega
    obtain ⟨xe, hxe⟩ : ∃ y : Nat, xc + xd = y := ⟨_, rfl⟩
    have Wxe : IntKind.i64.wrap ((xc : Int) + (xd : Int)) = ((xe : Nat) : Int) := by rw [wrapI _ (by omega) (by omega)]; omega
    obtain ⟨xf, hxf⟩ : ∃ y : Nat, q * 53 = y := ⟨_, rfl⟩
    have Wxf : IntKind.i64.wrap ((q : Int) * 53) = ((xf : Nat) : Int) := by rw [wrapI _ (by omega) (by omega)]; omega
    obtain ⟨x, hx⟩ : ∃ y : Nat, xe + xf = y := ⟨_, rfl⟩
    have Wx : IntKind.i64.wrap ((xe : Int) + (xf : Int)) = ((x : Nat) : Int) := by rw [wrapI _ (by omega) (by omega)]; omega
    have Wq : IntKind.i64.wrap (q : Int) = (q : Int) := wrapI _ (by omega) (by omega)
    have hxm : x < 9223372036854775808 := by omega
    have hi2' : k73 % L.length = i2 := by rw [← hi2, ← hk73, ← hk7]
    obtain ⟨y, hy⟩ : ∃ y : Nat, x / 64 = y := ⟨_, rfl⟩
    obtain ⟨z, hz⟩ : ∃ z : Nat, x ^^^ y = z := ⟨_, rfl⟩
    obtain ⟨r, hr⟩ : ∃ r : Nat, z % n = r := ⟨_, rfl⟩
    have m1 : Int.tmod (k : Int) (L.length : Int) = (i1 : Int) := by rw [← hi1]; exact (Int.ofNat_tmod _ _).symm
    have m2 : Int.tmod (k73 : Int) (L.length : Int) = (i2 : Int) := by rw [← hi2']; exact (Int.ofNat_tmod _ _).symm
    have m3 : Int.tmod (z : Int) (n : Int) = (r : Int) := by rw [← hr]; exact (Int.ofNat_tmod _ _).symm
    have hd : Int.tdiv (k : Int) (L.length : Int) = (q : Int) := by rw [← hq]; exact (Int.ofNat_tdiv _ _).symm
    have hd2 : Int.tdiv (x : Int) 64 = (y : Int) := by rw [← hy]; exact (Int.ofNat_tdiv _ 64).symm
    have hyx : y ≤ x := by rw [← hy]; exact Nat.div_le_self _ _
    have hxr : bits .xor .i64 (x : Int) (y : Int) = (z : Int) := by rw [← hz]; exact xor_nat x y hxm (by omega)
    have HRN := hide (show r < n by rw [← hr]; exact Nat.mod_lt _ hn)
    have hkI : ¬ ((k : Int) < (L.length : Int)) := by omega
    clear hr hz hy hq hi1 hi2 hi2' hk7 hk73 hxa hxc hxd hxe hxf hx h0
    go_enter Tryz.func48, Tryz.ntmps48
    go_wp2
    go_quiet (fail)
    go_wp2
    go_ret
    exact HFIN.out r _ (only_drewN (only_setCell (p := ⟨g, 1, none⟩) (grown_refl w (some g)) (.inl rfl) _) _) ((HR.out.set 1 _).drewN _) HRN.out
def OpenOut (w : World) (e : Ending) (w' : World) : Prop := ∃ L : List UInt8, e = .returned (.pointer (some ⟨w.heap.size, 0, none⟩)) ∧ RdD w' w.heap.size L 0 ∧ Below w.heap.size w w'
set_option maxRecDepth 100000 in
set_option maxHeartbeats 1000000 in
theorem open_any (l : List UInt8) (A : Option Addr) (n c : Nat) (fp : List Nat) (w : World) (ho : Ow w (.s 1 l.length (l.flatMap byteC)) (.slice A n c) fp) (hf : Lt fp w.heap.size) (hsz : l.length ≤ 1048576) :
    Calls Tryz.prog 42 #[.slice A n c] w (OpenOut w) := by
  obtain ⟨rfl, hnc, hcm⟩ := ho.nlen
  have HO := hide ho
  clear ho
  have HB := hide (fun (o : Obj) => (Below.refl w.heap.size w).alloc (Nat.le_refl _) o)
  by_cases hl : 2000 < l.length
  · have hlI : (2000 : Int) < (l.length : Int) := by omega
    obtain ⟨gb, off, rfl, hgl, hml, hcell⟩ := bytes_part HO.out hf (Below.refl _ _) 0 2000 (by omega) (by omega)
    simp only [List.drop_zero, Nat.add_zero] at hml hcell
    obtain ⟨fp2, ho2, hf2⟩ := bytes_mk (c := c) hcell (by omega) hcm
    have hcI : (2000 : Int) ≤ (c : Int) := by omega
    have HO2 := hide ho2
    have HF2 := hide hf2
    have HML := hide hml
    clear ho2 hf2 hcell hml hl
    go_enter Tryz.func42, Tryz.ntmps42
    go_wp2
    go_ret
    refine ⟨l.take 2000, rfl, ⟨_, c, fp2, ?_, HO2.out.alloc (fun b hb => by rw [HF2.out b hb]; exact hgl) _, fun b hb => by rw [HF2.out b hb]; exact hgl, by rw [HML.out]; exact Nat.le_refl _⟩, HB.out _⟩
    rw [HML.out]
    exact Row.new w _ _
  · have hlI : ¬ ((2000 : Int) < (l.length : Int)) := by omega
    have hl2 : l.length ≤ 2000 := by omega
    clear hl
    go_enter Tryz.func42, Tryz.ntmps42
    go_wp2
    go_ret
    exact ⟨l, rfl, ⟨A, c, fp, Row.new w _ _, HO.out.alloc hf _, hf, hl2⟩, HB.out _⟩
end Go.Proofs.YtnaecdoeldoipaaGreatDoor
set_option linter.unusedVariables false
set_option linter.unusedSimpArgs false
namespace Go.Proofs.YtnaecdoeldoipaaGreatDoor
open Go.ChangeShapes Go.WideShapes Go.ChangeAt Go.RowKit

/-- what a reader answers: it stays good if it was good and the bytes are as they must be -/
def Okr {α : Type} (bad bad' : Bool) (p : Option (α × List UInt8)) (v : α) (l' : List UInt8) : Prop := (bad' = false → bad = false ∧ p = some (v, l')) ∧ (bad' = true → bad = true ∨ p = none)
/-- the reference's reader in block g: the bytes L, of which l are left -/
def RdS (w : World) (g : Nat) (L l : List UInt8) (bad : Bool) : Prop := ∃ (A : Option Addr) (c n : Nat) (fp : List Nat), Row w g 102 [.slice A L.length c, .int .i64 (n : Int), .bool bad] ∧
  Ow w (.s 1 L.length (L.flatMap byteC)) (.slice A L.length c) fp ∧ Lt fp g ∧ n ≤ L.length ∧ L.length ≤ 9000 ∧ l = L.drop n
theorem RdS.lt {w : World} {g : Nat} {L l : List UInt8} {bad : Bool} (h : RdS w g L l bad) : g < w.heap.size := by
  obtain ⟨_, _, _, _, hr, _⟩ := h
  exact hr.lt
theorem RdS.below {w w' : World} {g : Nat} {L l : List UInt8} {bad : Bool} (h : RdS w g L l bad) (hb : Below w.heap.size w w') : RdS w' g L l bad := by
  obtain ⟨A, c, n, fp, hr, ho, hfp, hn, hL, hl⟩ := h
  exact ⟨A, c, n, fp, hr.below hb hr.lt, ho.below hb (hfp.mono (Nat.le_of_lt hr.lt)), hfp, hn, hL, hl⟩
theorem RdS.make {w w' : World} {g : Nat} {L : List UInt8} {A : Option Addr} {c n : Nat} {fp : List Nat} {bad : Bool} (ho : Ow w (.s 1 L.length (L.flatMap byteC)) (.slice A L.length c) fp) (hfp : Lt fp g) (hlt : g < w.heap.size) (hL : L.length ≤ 9000) (hn : n ≤ L.length)
    (hg : w.grownBy w' (some g)) (hr : Row w' g 102 [.slice A L.length c, .int .i64 (n : Int), .bool bad]) : RdS w' g L (L.drop n) bad ∧ w.grownBy w' (some g) :=
  ⟨⟨A, c, n, fp, hr, ho.below (below_of_grown hg (Nat.le_refl g) (Nat.le_of_lt hlt)) hfp, hfp, hn, hL, rfl⟩, hg⟩
/-- bytes that are read as a text -/
theorem conv_sub {W : World} {gb o c : Nat} {l : List UInt8} (hc : ∀ j (hj : j < l.length), W.cell? ⟨gb, o + j, none⟩ = some (.int .u8 (l[j].toNat : Int))) :
    (convert 22 9 (.slice (some ⟨gb, o, none⟩) l.length c)).run Tryz.prog W = .ok (.string (ba l)) W :=
  run_convert_bytes_back W 22 9 5 ⟨gb, o, none⟩ c l Tryz.underlying22 Tryz.underlying5 Tryz.underlying9 (fun j hj => by rw [Addr.add_lit]; exact hc j hj)
theorem conv_zero (W : World) (A : Option Addr) (c : Nat) : (convert 22 9 (.slice A 0 c)).run Tryz.prog W = .ok (.string .empty) W := by
  rw [run_convert_bytes_string W 22 9 5 A 0 c Tryz.underlying22 Tryz.underlying5 Tryz.underlying9]
  cases A with
  | none => simp [Conv.bytesToString]
  | some a =>
    have h := run_loadCells_list (P := Tryz.prog) W a [] (fun j v hj => by simp at hj)
    exact run_bytesToString W a 0 c [] h
theorem pSev_one (strict : Bool) (k p n : Nat) (l : List UInt8) : pSev strict (k + 1) p n l = match pOne l with | none => none | some (x, r) => if x < 128 then some (n + x.toNat % 128 * p, r) else pSev strict k (p * 128) (n + x.toNat % 128 * p) r := by
  cases l with
  | nil => rfl
  | cons b r =>
    have h := b.toNat_lt
    simp only [pSev, pOne, Int.toNat_natCast]
    by_cases h1 : b.toNat < 128
    · rw [if_pos h1, if_pos (by omega)]
    · rw [if_neg h1, if_neg (by omega)]
/-- a size by sevens, as far as it is read -/
def SevAt (strict bad0 : Bool) (l0 : List UInt8) (b : Bool) (k p n : Nat) (l : List UInt8) : Prop := (b = false → bad0 = false ∧ pSev strict 5 1 0 l0 = pSev strict k p n l) ∧ (b = true → bad0 = true ∨ pSev strict 5 1 0 l0 = none)
theorem SevAt.next {strict bad0 b b' : Bool} {l0 l l' : List UInt8} {k p n y : Nat} (h : SevAt strict bad0 l0 b (k + 1) p n l) (ho : Okr b b' (pOne l) (y : Int) l') (hy : ¬ y < 128) : SevAt strict bad0 l0 b' k (p * 128) (n + y % 128 * p) l' := by
  refine ⟨fun hb => ?_, fun hb => ?_⟩
  · obtain ⟨e1, e2⟩ := ho.1 hb
    obtain ⟨e3, e4⟩ := h.1 e1
    refine ⟨e3, ?_⟩
    rw [e4, pSev_one, e2]
    simp only [Int.toNat_natCast]
    rw [if_neg (by omega)]
  · rcases ho.2 hb with e1 | e1
    · exact h.2 e1
    · rcases hb' : b with _ | _
      · obtain ⟨e3, e4⟩ := h.1 hb'
        right
        rw [e4, pSev_one, e1]
      · exact h.2 hb'
theorem SevAt.last {strict bad0 b b' : Bool} {l0 l l' : List UInt8} {k p n y : Nat} (h : SevAt strict bad0 l0 b (k + 1) p n l) (ho : Okr b b' (pOne l) (y : Int) l') (hy : y < 128) : Okr bad0 b' (pSev strict 5 1 0 l0) (n + y % 128 * p) l' := by
  refine ⟨fun hb => ?_, fun hb => ?_⟩
  · obtain ⟨e1, e2⟩ := ho.1 hb
    obtain ⟨e3, e4⟩ := h.1 e1
    refine ⟨e3, ?_⟩
    rw [e4, pSev_one, e2]
    simp only [Int.toNat_natCast]
    rw [if_pos (by omega)]
  · rcases ho.2 hb with e1 | e1
    · exact h.2 e1
    · rcases hb' : b with _ | _
      · obtain ⟨e3, e4⟩ := h.1 hb'
        right
        rw [e4, pSev_one, e1]
      · exact h.2 hb'
end Go.Proofs.YtnaecdoeldoipaaGreatDoor
