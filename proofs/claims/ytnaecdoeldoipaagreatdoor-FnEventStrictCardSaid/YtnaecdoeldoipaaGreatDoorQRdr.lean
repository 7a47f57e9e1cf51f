/-
  The draws of the reference: a reader of a code, and its picks. Readers of bytes: the reference's one, short and num.
-/
import Derived.Deep.RegionHeld3
import Derived.StillTailTactics
import Derived.BigQuiet
import Derived.Test.YtnaecdoeldoipaaGreatDoorQFirst
import Derived.Test.YtnaecdoeldoipaaGreatDoorQPackU
import Derived.Test.YtnaecdoeldoipaaGreatDoorQUnp
set_option linter.unusedVariables false
set_option linter.unusedSimpArgs false
namespace Go.Proofs.YtnaecdoeldoipaaGreatDoor
open Go.ChangeShapes Go.WideShapes Go.ChangeAt Go.RowKit

/-- the reader in block g: the bytes L, so many picks were made -/
def RdD (w : World) (g : Nat) (L : List UInt8) (k : Nat) : Prop := ∃ (A : Option Addr) (c : Nat) (fp : List Nat), Row w g 104 [.slice A L.length c, .int .i64 (k : Int)] ∧
  Ow w (.s 1 L.length (L.flatMap byteC)) (.slice A L.length c) fp ∧ Lt fp g ∧ L.length ≤ 2000
theorem RdD.lt {w : World} {g : Nat} {L : List UInt8} {k : Nat} (h : RdD w g L k) : g < w.heap.size := by
  obtain ⟨_, _, _, hr, _⟩ := h
  exact hr.lt
theorem RdD.low {w w' : World} {g : Nat} {L : List UInt8} {k B : Nat} (h : RdD w g L k) (hb : Below B w w') (hB : g < B) : RdD w' g L k := by
  obtain ⟨A, c, fp, hr, ho, hfp, hL⟩ := h
  exact ⟨A, c, fp, hr.below hb hB, ho.below hb (hfp.mono (Nat.le_of_lt hB)), hfp, hL⟩
theorem RdD.below {w w' : World} {g : Nat} {L : List UInt8} {k : Nat} (h : RdD w g L k) (hb : Below w.heap.size w w') : RdD w' g L k := h.low hb h.lt
def PickOut (g : Nat) (L : List UInt8) (k n : Nat) (w : World) (e : Ending) (w' : World) : Prop :=
  ∃ r : Nat, e = .returned (.int .i64 (r : Int)) ∧ r < n ∧ RdD w' g L (k + 1) ∧ w.grownBy w' (some g)
theorem xor_nat (a b : Nat) (ha : a < 9223372036854775808) (hb : b < 9223372036854775808) : bits .xor .i64 (a : Int) (b : Int) = ((a ^^^ b : Nat) : Int) := by
  have hx : a ^^^ b < 2 ^ 63 := Nat.xor_lt_two_pow (by omega) (by omega)
  have h1 : (BitVec.ofInt 64 (a : Int)).toNat = a := by
    rw [BitVec.ofInt_natCast, BitVec.toNat_ofNat]; exact Nat.mod_eq_of_lt (by omega)
  have h2 : (BitVec.ofInt 64 (b : Int)).toNat = b := by
    rw [BitVec.ofInt_natCast, BitVec.toNat_ofNat]; exact Nat.mod_eq_of_lt (by omega)
  show IntKind.i64.wrap ((BitVec.ofInt 64 (a : Int) ^^^ BitVec.ofInt 64 (b : Int)).toNat : Int) = _
  rw [BitVec.toNat_xor, h1, h2, IntKind.wrap_i64]
  omega
set_option maxRecDepth 100000 in
set_option maxHeartbeats 2000000 in
theorem pick_any {L : List UInt8} {k g n : Nat} {w : World} (h : RdD w g L k) (hk : k ≤ 1000000000) (hn : 1 ≤ n) (hn2 : n ≤ 1000000) :
    Calls Tryz.prog 48 #[.pointer (some ⟨g, 0, none⟩), .int .i64 (n : Int)] w (PickOut g L k n w) := by
  obtain ⟨A, c, fp, hr, ho, hfp, hL⟩ := h
  have r0 := hr.cell 0
  have r1 := hr.cell 1
  have lr := hr.lt
  have f1 := hr.frozen 1
  have HR := hide hr
  have HO := hide ho
  have hn' : ¬ ((n : Int) < 1) := by omega
  have HFIN := hide (fun (r : Nat) (W : World) (hW : w.grownBy W (some g)) (hrow : Row W g 104 [.slice A L.length c, .int .i64 ((k : Int) + 1)]) (hrn : r < n) => show PickOut g L k n w (.returned (.int .i64 (r : Int))) W from
    ⟨r, rfl, hrn, ⟨A, c, fp, by rw [show ((k + 1 : Nat) : Int) = (k : Int) + 1 by omega]; exact hrow, HO.out.below (below_of_grown hW (Nat.le_refl g) (Nat.le_of_lt lr)) hfp, hfp, hL⟩, hW⟩)
  have HN := hide hn
  clear hr ho
  by_cases h0 : L.length = 0
  · rw [h0] at r0
    go_enter Tryz.func48, Tryz.ntmps48
    go_wp2
    go_ret
    exact HFIN.out 0 _ (only_setCell (p := ⟨g, 1, none⟩) (grown_refl w (some g)) (.inl rfl) _) (HR.out.set 1 _) HN.out
  have hl0 : ¬ ((L.length : Int) = 0) := by omega
  have hlb : ((L.length : Int) == 0) = false := beq_eq_false_iff_ne.2 hl0
  have hnb : ¬ ((n : Int) = 0) := by omega
  by_cases hkl : k < L.length
  · obtain ⟨gb, off, rfl, hgm, hcell, -⟩ := bytes_at HO.out hkl
    have hgl := hfp gb hgm
    have hx := (L[k]).toNat_lt
    have hkI : (k : Int) < (L.length : Int) := by omega
    generalize L[k] = b at *
    obtain ⟨r, hr⟩ : ∃ r : Nat, b.toNat % n = r := ⟨_, rfl⟩
    have hmr : Int.tmod (b.toNat : Int) (n : Int) = (r : Int) := by rw [← hr]; exact (Int.ofNat_tmod _ _).symm
    have HRN := hide (show r < n by rw [← hr]; exact Nat.mod_lt _ hn)
    clear hr h0
    go_enter Tryz.func48, Tryz.ntmps48
    go_wp2
    go_ret
    exact HFIN.out r _ (only_setCell (p := ⟨g, 1, none⟩) (grown_refl w (some g)) (.inl rfl) _) (HR.out.set 1 _) HRN.out
  · obtain ⟨i1, hi1⟩ : ∃ i : Nat, k % L.length = i := ⟨_, rfl⟩
    obtain ⟨i2, hi2⟩ : ∃ i : Nat, (k * 7 + 3) % L.length = i := ⟨_, rfl⟩
    have h1l : i1 < L.length := by rw [← hi1]; exact Nat.mod_lt _ (by omega)
    have h2l : i2 < L.length := by rw [← hi2]; exact Nat.mod_lt _ (by omega)
    obtain ⟨gb, off, rfl, hgm, hcell, -⟩ := bytes_at HO.out h1l
    obtain ⟨gb', off', e, -, hcell2, -⟩ := bytes_at HO.out h2l
    injection e with e
    injection e with e1 e2 _
    subst e1 e2
    have hgl := hfp gb hgm
    have hx1 := (L[i1]).toNat_lt
    have hx2 := (L[i2]).toNat_lt
    generalize L[i1] = b1 at *
    generalize L[i2] = b2 at *
    obtain ⟨q, hq⟩ : ∃ q : Nat, k / L.length = q := ⟨_, rfl⟩
    have hqk : q ≤ k := by rw [← hq]; exact Nat.div_le_self _ _
    obtain ⟨k7, hk7⟩ : ∃ y : Nat, k * 7 = y := ⟨_, rfl⟩
    have Wk7 : IntKind.i64.wrap ((k : Int) * 7) = ((k7 : Nat) : Int) := by rw [wrapI _ (by omega) (by omega)]; omega
    obtain ⟨k73, hk73⟩ : ∃ y : Nat, k7 + 3 = y := ⟨_, rfl⟩
    have Wk73 : IntKind.i64.wrap ((k7 : Int) + 3) = ((k73 : Nat) : Int) := by rw [wrapI _ (by omega) (by omega)]; omega
    obtain ⟨xa, hxa⟩ : ∃ y : Nat, b1.toNat * 131 = y := ⟨_, rfl⟩
    have Wxa : IntKind.i64.wrap ((b1.toNat : Int) * 131) = ((xa : Nat) : Int) := by rw [wrapI _ (by omega) (by omega)]; omega
    obtain ⟨xb, hxb⟩ : ∃ y : Nat, b2.toNat * 1117 = y := ⟨_, rfl⟩
    have Wxb : IntKind.i64.wrap ((b2.toNat : Int) * 1117) = ((xb : Nat) : Int) := by rw [wrapI _ (by omega) (by omega)]; omega
    obtain ⟨xc, hxc⟩ : ∃ y : Nat, xa + xb = y := ⟨_, rfl⟩
    have Wxc : IntKind.i64.wrap ((xa : Int) + (xb : Int)) = ((xc : Nat) : Int) := by rw [wrapI _ (by omega) (by omega)]; omega
    obtain ⟨xd, hxd⟩ : ∃ y : Nat, k * 29 = y := ⟨_, rfl⟩
    have Wxd : IntKind.i64.wrap ((k : Int) * 29) = ((xd : Nat) : Int) := by rw [wrapI _ (by omega) (by omega)]; omega
    obtain ⟨xe, hxe⟩ : ∃ y : Nat, xc + xd = y := ⟨_, rfl⟩
    have Wxe : IntKind.i64.wrap ((xc : Int) + (xd : Int)) = ((xe : Nat) : Int) := by rw [wrapI _ (by omega) (by omega)]; omega
    obtain ⟨xf, hxf⟩ : ∃ y : Nat, q * 53 = y := ⟨_, rfl⟩
    have Wxf : IntKind.i64.wrap ((q : Int) * 53) = ((xf : Nat) : Int) := by rw [wrapI _ (by omega) (by omega)]; omega
    obtain ⟨x, hx⟩ : ∃ y : Nat, xe + xf = y := ⟨_, rfl⟩
    have Wx : IntKind.i64.wrap ((xe : Int) + (xf : Int)) = ((x : Nat) : Int) := by rw [wrapI _ (by omega) (by omega)]; omega
    have Wq : IntKind.i64.wrap (q : Int) = (q : Int) := wrapI _ (by omega) (by omega)
    have hxm : x < 9223372036854775808 := by omega
    have hi2' : k73 % L.length = i2 := by rw [← hi2, ← hk73, ← hk7]
    obtain ⟨y, hy⟩ : ∃ y : Nat, x / 64 = y := ⟨_, rfl⟩
    obtain ⟨z, hz⟩ : ∃ z : Nat, x ^^^ y = z := ⟨_, rfl⟩
    obtain ⟨r, hr⟩ : ∃ r : Nat, z % n = r := ⟨_, rfl⟩
    have m1 : Int.tmod (k : Int) (L.length : Int) = (i1 : Int) := by rw [← hi1]; exact (Int.ofNat_tmod _ _).symm
    have m2 : Int.tmod (k73 : Int) (L.length : Int) = (i2 : Int) := by rw [← hi2']; exact (Int.ofNat_tmod _ _).symm
    have m3 : Int.tmod (z : Int) (n : Int) = (r : Int) := by rw [← hr]; exact (Int.ofNat_tmod _ _).symm
    have hd : Int.tdiv (k : Int) (L.length : Int) = (q : Int) := by rw [← hq]; exact (Int.ofNat_tdiv _ _).symm
    have hd2 : Int.tdiv (x : Int) 64 = (y : Int) := by rw [← hy]; exact (Int.ofNat_tdiv _ 64).symm
    have hyx : y ≤ x := by rw [← hy]; exact Nat.div_le_self _ _
    have hxr : bits .xor .i64 (x : Int) (y : Int) = (z : Int) := by rw [← hz]; exact xor_nat x y hxm (by omega)
    have HRN := hide (show r < n by rw [← hr]; exact Nat.mod_lt _ hn)
    have hkI : ¬ ((k : Int) < (L.length : Int)) := by omega
    clear hr hz hy hq hi1 hi2 hi2' hk7 hk73 hxa hxc hxd hxe hxf hx h0
    go_enter Tryz.func48, Tryz.ntmps48
    go_wp2
    go_quiet (fail)
    go_wp2
    go_ret
    exact HFIN.out r _ (only_drewN (only_setCell (p := ⟨g, 1, none⟩) (grown_refl w (some g)) (.inl rfl) _) _) ((HR.out.set 1 _).drewN _) HRN.out
def OpenOut (w : World) (e : Ending) (w' : World) : Prop := ∃ L : List UInt8, e = .returned (.pointer (some ⟨w.heap.size, 0, none⟩)) ∧ RdD w' w.heap.size L 0 ∧ Below w.heap.size w w'
set_option maxRecDepth 100000 in
set_option maxHeartbeats 1000000 in
theorem open_any (l : List UInt8) (A : Option Addr) (n c : Nat) (fp : List Nat) (w : World) (ho : Ow w (.s 1 l.length (l.flatMap byteC)) (.slice A n c) fp) (hf : Lt fp w.heap.size) (hsz : l.length ≤ 1048576) :
    Calls Tryz.prog 42 #[.slice A n c] w (OpenOut w) := by
  obtain ⟨rfl, hnc, hcm⟩ := ho.nlen
  have HO := hide ho
  clear ho
  have HB := hide (fun (o : Obj) => (Below.refl w.heap.size w).alloc (Nat.le_refl _) o)
  by_cases hl : 2000 < l.length
  · have hlI : (2000 : Int) < (l.length : Int) := by omega
    obtain ⟨gb, off, rfl, hgl, hml, hcell⟩ := bytes_part HO.out hf (Below.refl _ _) 0 2000 (by omega) (by omega)
    simp only [List.drop_zero, Nat.add_zero] at hml hcell
    obtain ⟨fp2, ho2, hf2⟩ := bytes_mk (c := c) hcell (by omega) hcm
    have hcI : (2000 : Int) ≤ (c : Int) := by omega
    have HO2 := hide ho2
    have HF2 := hide hf2
    have HML := hide hml
    clear ho2 hf2 hcell hml hl
    go_enter Tryz.func42, Tryz.ntmps42
    go_wp2
    go_ret
    refine ⟨l.take 2000, rfl, ⟨_, c, fp2, ?_, HO2.out.alloc (fun b hb => by rw [HF2.out b hb]; exact hgl) _, fun b hb => by rw [HF2.out b hb]; exact hgl, by rw [HML.out]; exact Nat.le_refl _⟩, HB.out _⟩
    rw [HML.out]
    exact Row.new w _ _
  · have hlI : ¬ ((2000 : Int) < (l.length : Int)) := by omega
    have hl2 : l.length ≤ 2000 := by omega
    clear hl
    go_enter Tryz.func42, Tryz.ntmps42
    go_wp2
    go_ret
    exact ⟨l, rfl, ⟨A, c, fp, Row.new w _ _, HO.out.alloc hf _, hf, hl2⟩, HB.out _⟩
end Go.Proofs.YtnaecdoeldoipaaGreatDoor
set_option linter.unusedVariables false
set_option linter.unusedSimpArgs false
namespace Go.Proofs.YtnaecdoeldoipaaGreatDoor
open Go.ChangeShapes Go.WideShapes Go.ChangeAt Go.RowKit

/-- what a reader answers: it stays good if it was good and the bytes are as they must be -/
def Okr {α : Type} (bad bad' : Bool) (p : Option (α × List UInt8)) (v : α) (l' : List UInt8) : Prop := (bad' = false → bad = false ∧ p = some (v, l')) ∧ (bad' = true → bad = true ∨ p = none)
/-- the reference's reader in block g: the bytes L, of which l are left -/
def RdS (w : World) (g : Nat) (L l : List UInt8) (bad : Bool) : Prop := ∃ (A : Option Addr) (c n : Nat) (fp : List Nat), Row w g 102 [.slice A L.length c, .int .i64 (n : Int), .bool bad] ∧
  Ow w (.s 1 L.length (L.flatMap byteC)) (.slice A L.length c) fp ∧ Lt fp g ∧ n ≤ L.length ∧ L.length ≤ 9000 ∧ l = L.drop n
theorem RdS.lt {w : World} {g : Nat} {L l : List UInt8} {bad : Bool} (h : RdS w g L l bad) : g < w.heap.size := by
  obtain ⟨_, _, _, _, hr, _⟩ := h
  exact hr.lt
theorem RdS.below {w w' : World} {g : Nat} {L l : List UInt8} {bad : Bool} (h : RdS w g L l bad) (hb : Below w.heap.size w w') : RdS w' g L l bad := by
  obtain ⟨A, c, n, fp, hr, ho, hfp, hn, hL, hl⟩ := h
  exact ⟨A, c, n, fp, hr.below hb hr.lt, ho.below hb (hfp.mono (Nat.le_of_lt hr.lt)), hfp, hn, hL, hl⟩
theorem RdS.make {w w' : World} {g : Nat} {L : List UInt8} {A : Option Addr} {c n : Nat} {fp : List Nat} {bad : Bool} (ho : Ow w (.s 1 L.length (L.flatMap byteC)) (.slice A L.length c) fp) (hfp : Lt fp g) (hlt : g < w.heap.size) (hL : L.length ≤ 9000) (hn : n ≤ L.length)
    (hg : w.grownBy w' (some g)) (hr : Row w' g 102 [.slice A L.length c, .int .i64 (n : Int), .bool bad]) : RdS w' g L (L.drop n) bad ∧ w.grownBy w' (some g) :=
  ⟨⟨A, c, n, fp, hr, ho.below (below_of_grown hg (Nat.le_refl g) (Nat.le_of_lt hlt)) hfp, hfp, hn, hL, rfl⟩, hg⟩
def OneOut (R : World → Nat → List UInt8 → List UInt8 → Bool → Prop) (g : Nat) (L : List UInt8) (bad : Bool) (p : Option (Int × List UInt8)) (w : World) (e : Ending) (w' : World) : Prop :=
  ∃ (x : Int) (l' : List UInt8) (bad' : Bool), e = .returned (.int .i64 x) ∧ 0 ≤ x ∧ x ≤ 255 ∧ R w' g L l' bad' ∧ w.grownBy w' (some g) ∧ Okr bad bad' p x l'
def NumOut (R : World → Nat → List UInt8 → List UInt8 → Bool → Prop) (g : Nat) (L : List UInt8) (bad : Bool) (p : Option (Int × List UInt8)) (w : World) (e : Ending) (w' : World) : Prop :=
  ∃ (x : Int) (l' : List UInt8) (bad' : Bool), e = .returned (.int .i64 x) ∧ -34359738368 ≤ x ∧ x ≤ 34359738368 ∧ R w' g L l' bad' ∧ w.grownBy w' (some g) ∧ Okr bad bad' p x l'
def StrOut (R : World → Nat → List UInt8 → List UInt8 → Bool → Prop) (g : Nat) (L : List UInt8) (bad : Bool) (p : Option (ByteArray × List UInt8)) (w : World) (e : Ending) (w' : World) : Prop :=
  ∃ (x : ByteArray) (l' : List UInt8) (bad' : Bool), e = .returned (.string x) ∧ x.size ≤ 255 ∧ R w' g L l' bad' ∧ w.grownBy w' (some g) ∧ Okr bad bad' p x l'
def TreeOut (R : World → Nat → List UInt8 → List UInt8 → Bool → Prop) (g : Nat) (L : List UInt8) (bad : Bool) (p : Option (Tree × List UInt8)) (w : World) (e : Ending) (w' : World) : Prop :=
  ∃ (t : Tree) (us : List Value) (fq : List Nat) (l' : List UInt8) (bad' : Bool), e = .returned (.agg us.toArray) ∧ OwC w' t.cells us fq ∧ New w' fq w.heap.size ∧ R w' g L l' bad' ∧ w.grownBy w' (some g) ∧ Okr bad bad' p t l'
set_option maxRecDepth 100000 in
set_option maxHeartbeats 1000000 in
theorem oneS_any {L l : List UInt8} {bad : Bool} {g : Nat} {w : World} (h : RdS w g L l bad) :
    Calls Tryz.prog 89 #[.pointer (some ⟨g, 0, none⟩)] w (OneOut RdS g L bad (pOne l) w) := by
  obtain ⟨A, c, n, fp, hr, ho, hfp, hn, hL, rfl⟩ := h
  have r0 := hr.cell 0
  have r1 := hr.cell 1
  have r2 := hr.cell 2
  have lr := hr.lt
  have f1 := hr.frozen 1
  have f2 := hr.frozen 2
  have HR := hide hr
  have HO := hide ho
  have HC := hide ho.nlen
  have hc := ho.nlen.2.1
  by_cases hlt : n < L.length
  · obtain ⟨gb, off, rfl, hgm, hcell, -⟩ := bytes_at ho hlt
    have hgl : gb < g := hfp gb hgm
    have hx := (L[n]).toNat_lt
    have HD := hide (show pOne (L.drop n) = some (((L[n]).toNat : Int), L.drop (n + 1)) from by rw [List.drop_eq_getElem_cons hlt]; rfl)
    clear hr ho
    generalize L[n] = b at *
    go_enter Tryz.func89, Tryz.ntmps89
    go_wp2
    go_quiet (fail)
    go_wp2
    go_quiet (fail)
    go_wp2
    go_ret
    have hm := fun W (hg : w.grownBy W (some g)) hr => RdS.make HO.out hfp lr hL (n := n + 1) (w' := W) (bad := bad) hlt hg hr
    refine ⟨(b.toNat : Int), L.drop (n + 1), bad, rfl, by omega, by omega, (hm _ ?_ ?_).1, (hm _ ?_ ?_).2, fun hb => ⟨hb, HD.out⟩, fun hb => .inl hb⟩
    iterate 2
      · exact only_drewN (only_setCell (p := ⟨g, 1, none⟩) (only_drewN (grown_refl w (some g)) _) (.inl rfl) _) _
      · exact ((HR.out.drewN _).set 1 _).drewN _
  · have HD := hide (show pOne (L.drop n) = none from by rw [List.drop_eq_nil_of_le (by omega)]; rfl)
    clear hr ho
    go_enter Tryz.func89, Tryz.ntmps89
    go_wp2
    go_quiet (fail)
    go_wp2
    go_ret
    have hm := fun W (hg : w.grownBy W (some g)) hr => RdS.make HO.out hfp lr hL (n := n) (w' := W) (bad := true) hn hg hr
    refine ⟨0, L.drop n, true, rfl, by omega, by omega, (hm _ ?_ ?_).1, (hm _ ?_ ?_).2, fun hb => (by cases hb), fun _ => .inr HD.out⟩
    iterate 2
      · exact only_setCell (p := ⟨g, 2, none⟩) (only_drewN (grown_refl w (some g)) _) (.inl rfl) _
      · exact (HR.out.drewN _).set 2 _
/-- bytes that are read as a text -/
theorem conv_sub {W : World} {gb o c : Nat} {l : List UInt8} (hc : ∀ j (hj : j < l.length), W.cell? ⟨gb, o + j, none⟩ = some (.int .u8 (l[j].toNat : Int))) :
    (convert 22 9 (.slice (some ⟨gb, o, none⟩) l.length c)).run Tryz.prog W = .ok (.string (ba l)) W :=
  run_convert_bytes_back W 22 9 5 ⟨gb, o, none⟩ c l Tryz.underlying22 Tryz.underlying5 Tryz.underlying9 (fun j hj => by rw [Addr.add_lit]; exact hc j hj)
theorem conv_zero (W : World) (A : Option Addr) (c : Nat) : (convert 22 9 (.slice A 0 c)).run Tryz.prog W = .ok (.string .empty) W := by
  rw [run_convert_bytes_string W 22 9 5 A 0 c Tryz.underlying22 Tryz.underlying5 Tryz.underlying9]
  cases A with
  | none => simp [Conv.bytesToString]
  | some a =>
    have h := run_loadCells_list (P := Tryz.prog) W a [] (fun j v hj => by simp at hj)
    exact run_bytesToString W a 0 c [] h
set_option maxRecDepth 100000 in
set_option maxHeartbeats 1000000 in
theorem shortS_any {L l : List UInt8} {bad : Bool} {g : Nat} {w : World} (h : RdS w g L l bad) :
    Calls Tryz.prog 88 #[.pointer (some ⟨g, 0, none⟩)] w (StrOut RdS g L bad (pShort l) w) := by
  have HC := hide (oneS_any h)
  have hlw := h.lt
  clear h
  go_enter Tryz.func88, Tryz.ntmps88
  go_wp2_with fail
  refine HC.out.mono ?_
  rintro e w2 ⟨x, l1, bad1, rfl, hx0, hx1, h2, hg2, hok⟩
  obtain ⟨m, rfl⟩ : ∃ m : Nat, x = (m : Int) := ⟨x.toNat, by omega⟩
  obtain ⟨A, c, n, fp, hr, ho, hfp, hn, hL, rfl⟩ := h2
  have r0 := hr.cell 0
  have r1 := hr.cell 1
  have r2 := hr.cell 2
  have lr := hr.lt
  have f1 := hr.frozen 1
  have f2 := hr.frozen 2
  have HR := hide hr
  have HO := hide ho
  have hc := ho.nlen.2.1
  have HG2 := hide hg2
  have HOK := hide hok
  have HS : Hid (pShort l = match pOne l with | none => none | some (n, r) => if n.toNat ≤ r.length then some (ba (r.take n.toNat), r.drop n.toNat) else none) := hide (by cases l <;> rfl)
  clear hr ho hg2 hok HC
  by_cases hm : m ≤ L.length - n
  · have hm' : ¬ ((L.length : Int) - (n : Int) < (m : Int)) := by omega
    have HB : Hid (bad1 = false → pShort l = some (ba ((L.drop n).take m), L.drop (n + m))) := hide (fun hb => by
      rw [HS.out, (HOK.out.1 hb).2]
      simp only [Int.toNat_natCast, List.length_drop]
      rw [if_pos hm, List.drop_drop])
    have HN : Hid (bad1 = true → bad = true ∨ pShort l = none) := hide (fun hb => (HOK.out.2 hb).imp id (fun e => by rw [HS.out, e]))
    have hnm : n + m ≤ L.length := by omega
    clear HS hm
    by_cases hm0 : m = 0
    · have hcv : ∀ (W : World) (A : Option Addr) (c : Nat), (convert 22 9 (.slice A 0 c)).run Tryz.prog W = .ok (.string .empty) W := conv_zero
      subst hm0
      have HZ : Hid (bad1 = false → pShort l = some (.empty, L.drop n)) := hide (fun hb => by rw [HB.out hb]; rfl)
      clear HB
      have hw2 : IntKind.i64.wrap (n : Int) = (n : Int) := wrapI _ (by omega) (by omega)
      have hs0 : (0 : Int) ≤ (n : Int) := by omega
      have hs2 : (n : Int) ≤ (c : Int) := by omega
      have hm2 : (0 : Int) ≤ (L.length : Int) - (n : Int) := by omega
      rcases A with _ | ⟨ab, ao, az⟩
      all_goals
        go_wp2
        go_quiet (fail)
        go_wp2
        go_quiet (fail)
        go_wp2
      all_goals
        go_ret
        have hm := fun W (hg : w2.grownBy W (some g)) hr => RdS.make HO.out hfp lr hL (n := n) (w' := W) (bad := bad1) hn hg hr
        refine ⟨.empty, L.drop n, bad1, rfl, by decide, (hm _ ?_ ?_).1, only_trans HG2.out (hm _ ?_ ?_).2, fun hb => ⟨(HOK.out.1 hb).1, HZ.out hb⟩, fun hb => HN.out hb⟩
        iterate 2
          · exact only_drewN (only_setCell (p := ⟨g, 1, none⟩) (only_drewN (grown_refl w2 (some g)) _) (.inl rfl) _) _
          · exact ((HR.out.drewN _).set 1 _).drewN _
    · have hL0 : 0 < L.length := by omega
      obtain ⟨gb, off, rfl, hgb, hml, -⟩ := bytes_part HO.out hfp (Below.refl _ _) n m hnm hL0
      have hcn : ¬ (c = n) := by omega
      have hw1 : IntKind.i64.wrap ((n : Int) + (m : Int) - (m : Int)) = (n : Int) := by rw [wrapI _ (by omega) (by omega)]; omega
      have hw2 : IntKind.i64.wrap (n : Int) = (n : Int) := wrapI _ (by omega) (by omega)
      have hs0 : (0 : Int) ≤ (n : Int) := by omega
      have hs1 : (n : Int) ≤ (n : Int) + (m : Int) := by omega
      have hs2 : (n : Int) + (m : Int) ≤ (c : Int) := by omega
      have hcv : ∀ (k k' : Nat), (convert 22 9 (.slice (some ⟨gb, off + n, none⟩) m (c - n))).run Tryz.prog (((w2.drewN k).setCell ⟨g, 1, none⟩ (.int .i64 ((n : Int) + (m : Int)))).drewN k') = .ok (.string (ba ((L.drop n).take m))) (((w2.drewN k).setCell ⟨g, 1, none⟩ (.int .i64 ((n : Int) + (m : Int)))).drewN k') := fun k k' => by
        obtain ⟨gb', off', e, hgb', hml', hc'⟩ := bytes_part HO.out hfp (below_of_grown (only_drewN (only_setCell (p := ⟨g, 1, none⟩) (only_drewN (grown_refl w2 (some g)) k) (.inl rfl) (.int .i64 ((n : Int) + (m : Int)))) k') (Nat.le_refl g) (Nat.le_of_lt lr)) n m hnm hL0
        injection e with e
        injection e with e1 e2 e3
        subst e1 e2
        have h := conv_sub (c := c - n) hc'
        rw [hml'] at h
        exact h
      go_wp2
      go_quiet (fail)
      go_wp2
      go_quiet (fail)
      go_wp2
      go_ret
      have hm := fun W (hg : w2.grownBy W (some g)) hr => RdS.make HO.out hfp lr hL (n := n + m) (w' := W) (bad := bad1) hnm hg hr
      refine ⟨ba ((L.drop n).take m), L.drop (n + m), bad1, rfl, by rw [ba_size, hml]; omega, (hm _ ?_ ?_).1, only_trans HG2.out (hm _ ?_ ?_).2, fun hb => ⟨(HOK.out.1 hb).1, HB.out hb⟩, fun hb => HN.out hb⟩
      iterate 2
        · exact only_drewN (only_setCell (p := ⟨g, 1, none⟩) (only_drewN (grown_refl w2 (some g)) _) (.inl rfl) _) _
        · exact ((HR.out.drewN _).set 1 _).drewN _
  · have hm' : (L.length : Int) - (n : Int) < (m : Int) := by omega
    have HN : Hid (bad = true ∨ pShort l = none) := hide (by
      rcases hb : bad1 with _ | _
      · right
        rw [HS.out, (HOK.out.1 hb).2]
        simp only [Int.toNat_natCast, List.length_drop]
        rw [if_neg hm]
      · exact (HOK.out.2 hb).imp id (fun e => by rw [HS.out, e]))
    clear HS HOK
    go_wp2
    go_quiet (fail)
    go_wp2
    go_ret
    have hm := fun W (hg : w2.grownBy W (some g)) hr => RdS.make HO.out hfp lr hL (n := n) (w' := W) (bad := true) hn hg hr
    refine ⟨.empty, L.drop n, true, rfl, by decide, (hm _ ?_ ?_).1, only_trans HG2.out (hm _ ?_ ?_).2, fun hb => (by cases hb), fun _ => HN.out⟩
    iterate 2
      · exact only_setCell (p := ⟨g, 2, none⟩) (only_drewN (grown_refl w2 (some g)) _) (.inl rfl) _
      · exact (HR.out.drewN _).set 2 _
theorem pSev_one (strict : Bool) (k p n : Nat) (l : List UInt8) : pSev strict (k + 1) p n l = match pOne l with | none => none | some (x, r) => if x < 128 then some (n + x.toNat % 128 * p, r) else pSev strict k (p * 128) (n + x.toNat % 128 * p) r := by
  cases l with
  | nil => rfl
  | cons b r =>
    have h := b.toNat_lt
    simp only [pSev, pOne, Int.toNat_natCast]
    by_cases h1 : b.toNat < 128
    · rw [if_pos h1, if_pos (by omega)]
    · rw [if_neg h1, if_neg (by omega)]
theorem pNum_one (strict : Bool) (l : List UInt8) : pNum strict l = match pOne l with | none => none | some (x, r) => (pSev strict 5 1 0 r).map (fun p => (if x = 1 then -(p.1 : Int) else (p.1 : Int), p.2)) := by
  cases l with
  | nil => rfl
  | cons b r =>
    simp only [pNum, pOne]
    congr 1
    funext p
    unfold signed
    by_cases h1 : b.toNat = 1
    · rw [if_pos h1, if_pos (by omega)]
    · rw [if_neg h1, if_neg (by omega)]
/-- a size by sevens, as far as it is read -/
def SevAt (strict bad0 : Bool) (l0 : List UInt8) (b : Bool) (k p n : Nat) (l : List UInt8) : Prop := (b = false → bad0 = false ∧ pSev strict 5 1 0 l0 = pSev strict k p n l) ∧ (b = true → bad0 = true ∨ pSev strict 5 1 0 l0 = none)
theorem SevAt.next {strict bad0 b b' : Bool} {l0 l l' : List UInt8} {k p n y : Nat} (h : SevAt strict bad0 l0 b (k + 1) p n l) (ho : Okr b b' (pOne l) (y : Int) l') (hy : ¬ y < 128) : SevAt strict bad0 l0 b' k (p * 128) (n + y % 128 * p) l' := by
  refine ⟨fun hb => ?_, fun hb => ?_⟩
  · obtain ⟨e1, e2⟩ := ho.1 hb
    obtain ⟨e3, e4⟩ := h.1 e1
    refine ⟨e3, ?_⟩
    rw [e4, pSev_one, e2]
    simp only [Int.toNat_natCast]
    rw [if_neg (by omega)]
  · rcases ho.2 hb with e1 | e1
    · exact h.2 e1
    · rcases hb' : b with _ | _
      · obtain ⟨e3, e4⟩ := h.1 hb'
        right
        rw [e4, pSev_one, e1]
      · exact h.2 hb'
theorem SevAt.last {strict bad0 b b' : Bool} {l0 l l' : List UInt8} {k p n y : Nat} (h : SevAt strict bad0 l0 b (k + 1) p n l) (ho : Okr b b' (pOne l) (y : Int) l') (hy : y < 128) : Okr bad0 b' (pSev strict 5 1 0 l0) (n + y % 128 * p) l' := by
  refine ⟨fun hb => ?_, fun hb => ?_⟩
  · obtain ⟨e1, e2⟩ := ho.1 hb
    obtain ⟨e3, e4⟩ := h.1 e1
    refine ⟨e3, ?_⟩
    rw [e4, pSev_one, e2]
    simp only [Int.toNat_natCast]
    rw [if_pos (by omega)]
  · rcases ho.2 hb with e1 | e1
    · exact h.2 e1
    · rcases hb' : b with _ | _
      · obtain ⟨e3, e4⟩ := h.1 hb'
        right
        rw [e4, pSev_one, e1]
      · exact h.2 hb'
theorem sev_num {strict bad bad1 b : Bool} {l l1 l' : List UInt8} {x : Int} {n : Nat} (h1 : Okr bad bad1 (pOne l) x l1) (h2 : Okr bad1 b (pSev strict 5 1 0 l1) n l') : Okr bad b (pNum strict l) (if x = 1 then -(n : Int) else (n : Int)) l' := by
  refine ⟨fun hb => ?_, fun hb => ?_⟩
  · obtain ⟨e1, e2⟩ := h2.1 hb
    obtain ⟨e3, e4⟩ := h1.1 e1
    refine ⟨e3, ?_⟩
    rw [pNum_one, e4]
    simp only [e2, Option.map_some]
  · rcases h2.2 hb with e1 | e1
    · exact (h1.2 e1).imp id (fun e => by rw [pNum_one, e])
    · rcases hb' : bad1 with _ | _
      · obtain ⟨e3, e4⟩ := h1.1 hb'
        right
        rw [pNum_one, e4]
        simp only [e1, Option.map_none]
      · exact (h1.2 hb').imp id (fun e => by rw [pNum_one, e])
set_option maxRecDepth 100000 in
set_option maxHeartbeats 1000000 in
theorem numS_any {L l : List UInt8} {bad : Bool} {g : Nat} {w : World} (h : RdS w g L l bad) :
    Calls Tryz.prog 129 #[.pointer (some ⟨g, 0, none⟩)] w (NumOut RdS g L bad (pNum false l) w) := by
  have HC := hide (oneS_any h)
  clear h
  go_enter Tryz.func129, Tryz.ntmps129
  go_wp2_with fail
  refine HC.out.mono ?_
  rintro e w2 ⟨x, l1, bad1, rfl, hx0, hx1, h2, hg2, hok⟩
  have H2 := hide h2
  have HG2 := hide hg2
  have HOK := hide hok
  clear h2 hg2 hok HC
  go_wp2
  go_loopw [4, 5, 6] (fun nv pv kv wr => (∃ (k n p : Nat) (l' : List UInt8) (b : Bool), k ≤ 5 ∧ n < p ∧ p = 128 ^ k ∧ nv = .int .i64 (n : Int) ∧ pv = .int .i64 (p : Int) ∧ kv = .int .i64 (k : Int) ∧ RdS wr g L l' b ∧ SevAt false bad1 l1 b (5 - k) p n l') ∧ w2.grownBy wr (some g)) (fun _ _ kv _ => 5 - (intOf kv).toNat)
  case atStart => exact ⟨⟨0, 0, 1, l1, bad1, by omega, by omega, rfl, rfl, rfl, rfl, H2.out, fun hb => ⟨hb, rfl⟩, fun hb => .inl hb⟩, grown_refl _ _⟩
  case round =>
    obtain ⟨⟨k, n, p, l', b, hk, hn, hp, rfl, rfl, rfl, hr, hs⟩, hg⟩ := hrel
    have HR := hide hr
    have HS := hide hs
    have HG := hide hg
    have HP := hide hp
    clear hr hs hg hp
    by_cases hlt : k < 5
    · have HC := hide (oneS_any HR.out)
      have hpb : p ≤ 268435456 := by rw [HP.out]; exact Nat.le_trans (Nat.pow_le_pow_right (by decide) (show k ≤ 4 by omega)) (by decide)
      obtain ⟨r, hr⟩ : ∃ r, 5 - k = r + 1 := ⟨4 - k, by omega⟩
      have HRR := hide hr
      go_wp2_with fail
      refine HC.out.mono ?_
      rintro e w3 ⟨y, l3, b3, rfl, hy0, hy1, h3, hg3, hok3⟩
      obtain ⟨y, rfl⟩ : ∃ y' : Nat, y = (y' : Int) := ⟨y.toNat, by omega⟩
      have H3 := hide h3
      have HG3 := hide hg3
      have HOK3 := hide hok3
      clear h3 hg3 hok3 HC hr
      obtain ⟨q, hq⟩ : ∃ q : Nat, y % 128 * p = q := ⟨_, rfl⟩
      have hqi : ((y : Int) % 128 * (p : Int)) = (q : Int) := by rw [← hq]; simp
      have hqb : q ≤ 127 * p := by rw [← hq]; exact Nat.mul_le_mul_right p (by omega)
      have HQ := hide hq
      clear hq
      by_cases hy : y < 128
      · have HL := hide (show Okr bad1 b3 (pSev false 5 1 0 l1) (n + q) l3 from by
          have h := HS.out
          rw [HRR.out] at h
          have h' := h.last HOK3.out hy
          rw [HQ.out] at h'
          exact h')
        go_wp2
        all_goals
          go_ret
          have hz := sev_num HOK.out HL.out
        · have hx : x = 1 := by simpa using ‹(x == 1) = true›
          rw [if_pos hx] at hz
          exact ⟨-((n + q : Nat) : Int), l3, b3, by simp [Array.getD], by omega, by omega, H3.out, only_trans (only_trans HG2.out HG.out) HG3.out, by simpa using hz⟩
        · have hx : ¬ x = 1 := by simpa using ‹(x == 1) = false›
          rw [if_neg hx] at hz
          exact ⟨((n + q : Nat) : Int), l3, b3, by simp [Array.getD], by omega, by omega, H3.out, only_trans (only_trans HG2.out HG.out) HG3.out, by simpa using hz⟩
      · have HL := hide (show SevAt false bad1 l1 b3 (5 - (k + 1)) (p * 128) (n + q) l3 from by
          have h := HS.out
          rw [HRR.out] at h
          have h' := h.next HOK3.out hy
          rw [HQ.out] at h'
          have e : 5 - (k + 1) = r := by have := HRR.out; omega
          rw [e]
          exact h')
        go_wp2
        go_roundw
        case rel => exact ⟨⟨k + 1, n + q, p * 128, l3, b3, by omega, by omega, by rw [HP.out, Nat.pow_succ], by go_num, by go_num, by go_num, H3.out, HL.out⟩, only_trans HG.out HG3.out⟩
        case measure => simp [intOf]; omega
    · obtain rfl : k = 5 := by omega
      have HL := hide (show Okr bad1 b (pSev false 5 1 0 l1) n l' from ⟨fun hb => ⟨(HS.out.1 hb).1, (HS.out.1 hb).2⟩, fun hb => HS.out.2 hb⟩)
      have hpb : p = 34359738368 := HP.out
      go_wp2
      all_goals
        go_ret
        have hz := sev_num HOK.out HL.out
      · have hx : x = 1 := by simpa using ‹(x == 1) = true›
        rw [if_pos hx] at hz
        exact ⟨-(n : Int), l', b, by simp [Array.getD], by omega, by omega, HR.out, only_trans HG2.out HG.out, by simpa using hz⟩
      · have hx : ¬ x = 1 := by simpa using ‹(x == 1) = false›
        rw [if_neg hx] at hz
        exact ⟨(n : Int), l', b, by simp [Array.getD], by omega, by omega, HR.out, only_trans HG2.out HG.out, by simpa using hz⟩
end Go.Proofs.YtnaecdoeldoipaaGreatDoor
