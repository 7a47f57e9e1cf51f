/-
  Readers of bytes: the program's take, num, text and size. Readers of trees: what both sides share. Rows of bytes that are the same: the reference's l4Same, the program's slices.Equal.
-/
import Derived.Laws.BitsAllLaws
import Derived.Test.YtnaecdoeldoipaaGreatDoorQFirst
import Derived.Test.YtnaecdoeldoipaaGreatDoorQRdr
set_option linter.unusedVariables false
set_option linter.unusedSimpArgs false
namespace Go.Proofs.YtnaecdoeldoipaaGreatDoor
open Go.ChangeShapes Go.WideShapes Go.ChangeAt Go.RowKit

/-- the program's reader in block g, with l left -/
def RdI (w : World) (g : Nat) (L l : List UInt8) (bad : Bool) : Prop := ∃ (A : Option Addr) (c : Nat) (fp : List Nat), Row w g 98 [.slice A l.length c, .bool bad] ∧
  Ow w (.s 1 l.length (l.flatMap byteC)) (.slice A l.length c) fp ∧ Lt fp g ∧ l.length ≤ 9000
theorem RdI.lt {w : World} {g : Nat} {L l : List UInt8} {bad : Bool} (h : RdI w g L l bad) : g < w.heap.size := by
  obtain ⟨_, _, _, hr, _⟩ := h
  exact hr.lt
theorem RdI.below {w w' : World} {g : Nat} {L l : List UInt8} {bad : Bool} (h : RdI w g L l bad) (hb : Below w.heap.size w w') : RdI w' g L l bad := by
  obtain ⟨A, c, fp, hr, ho, hfp, hL⟩ := h
  exact ⟨A, c, fp, hr.below hb hr.lt, ho.below hb (hfp.mono (Nat.le_of_lt hr.lt)), hfp, hL⟩
/-- a slice of bytes, as it may be read -/
def BytesAt (w : World) (B : Option Addr) (m : Nat) (xs : List UInt8) : Prop := xs.length = m ∧ (m = 0 ∨ ∃ gb o, B = some ⟨gb, o, none⟩ ∧ gb < w.heap.size ∧ ∀ j (hj : j < xs.length), w.cell? ⟨gb, o + j, none⟩ = some (.int .u8 (xs[j].toNat : Int)))
theorem BytesAt.conv {w : World} {B : Option Addr} {m : Nat} {xs : List UInt8} (h : BytesAt w B m xs) (c : Nat) : (convert 22 9 (.slice B m c)).run Tryz.prog w = .ok (.string (ba xs)) w := by
  obtain ⟨rfl, h | ⟨gb, o, rfl, _, hc⟩⟩ := h
  · have e : xs = [] := List.eq_nil_of_length_eq_zero h
    subst e
    exact conv_zero w B c
  · exact conv_sub hc
theorem bytes_nil {W : World} {A : Option Addr} {c : Nat} (hm : c ≤ maxLen) : Ow W (.s 1 ([] : List UInt8).length (([] : List UInt8).flatMap byteC)) (.slice A ([] : List UInt8).length c) [] := by
  unfold Ow
  exact ⟨by simp, _, c, rfl, Nat.zero_le _, hm, .inl ⟨rfl, rfl⟩⟩
theorem info_u8 : (Tryz.prog.info? 5).map (fun i => (i.zero, i.size, i.bytes)) = some (some (.int .u8 0), 1, 1) := by kernel_rfl
set_option maxRecDepth 100000 in
theorem mk_bytes (m : Nat) (hm : m ≤ 65535) (W : World) : (Instr.makeSlice 22 (.int .i64 (m : Int)) (.int .i64 (m : Int))).run Tryz.prog W = .ok (.slice (some ⟨W.heap.size, 0, none⟩) m m) (W.alloc (.cells (u8s (List.replicate m 0)).toArray 5)) := by
  obtain ⟨i, hi, h0, h1, h2⟩ := info_parts info_u8
  have h := run_make (P := Tryz.prog) W 22 5 i (.int .u8 0) Tryz.underlying22 hi h0 .i64 .i64 (m : Int) (m : Int) (by omega) (Int.le_refl _) (by rw [h2]; omega) (by omega)
  rw [h]
  simp only [Int.toNat_natCast, h1, Nat.mul_one]
  congr 3
  apply Array.ext
  · simp [madeCells, u8s]
  · intro j h1 h2
    simp [madeCells, u8s, Value.cells, Nat.mod_one]
theorem RdI.make {w w' : World} {g : Nat} {L l : List UInt8} {A : Option Addr} {c : Nat} {fp : List Nat} {bad : Bool} (ho : Ow w (.s 1 l.length (l.flatMap byteC)) (.slice A l.length c) fp) (hfp : Lt fp g) (hlt : g < w.heap.size) (hL : l.length ≤ 9000)
    (hg : w.grownBy w' (some g)) (hr : Row w' g 98 [.slice A l.length c, .bool bad]) : RdI w' g L l bad ∧ w.grownBy w' (some g) :=
  ⟨⟨A, c, fp, hr, ho.below (below_of_grown hg (Nat.le_refl g) (Nat.le_of_lt hlt)) hfp, hfp, hL⟩, hg⟩
def TakeOut (g : Nat) (L l : List UInt8) (m : Nat) (bad : Bool) (w : World) (e : Ending) (w' : World) : Prop :=
  ∃ (B : Option Addr) (c : Nat) (xs l' : List UInt8) (bad' : Bool), e = .returned (.slice B m c) ∧ (m ≤ c ∧ c ≤ maxLen) ∧ BytesAt w' B m xs ∧ RdI w' g L l' bad' ∧ w.grownBy w' (some g) ∧
    ((m ≤ l.length ∧ xs = l.take m ∧ l' = l.drop m ∧ bad' = bad) ∨ (l.length < m ∧ xs = List.replicate m 0 ∧ l' = l ∧ bad' = true))
set_option maxRecDepth 100000 in
set_option maxHeartbeats 1000000 in
theorem takeI_any {L l : List UInt8} {bad : Bool} {g : Nat} {w : World} (m : Nat) (hm : m ≤ 65535) (h : RdI w g L l bad) :
    Calls Tryz.prog 127 #[.pointer (some ⟨g, 0, none⟩), .int .i64 (m : Int)] w (TakeOut g L l m bad w) := by
  obtain ⟨A, c, fp, hr, ho, hfp, hL⟩ := h
  have r0 := hr.cell 0
  have r1 := hr.cell 1
  have lr := hr.lt
  have f0 := hr.frozen 0
  have f1 := hr.frozen 1
  have HR := hide hr
  have HO := hide ho
  have hc := ho.nlen.2.1
  have hcm := ho.nlen.2.2
  clear hr ho
  by_cases hlt : m ≤ l.length
  · have hz := fun (l' : List UInt8) (A' : Option Addr) (c' : Nat) (fp' : List Nat) (ho' : Ow w (.s 1 l'.length (l'.flatMap byteC)) (.slice A' l'.length c') fp') (hf' : Lt fp' g) (hL' : l'.length ≤ 9000) W (hg : w.grownBy W (some g)) hr => RdI.make ho' hf' lr hL' (w' := W) (L := L) (bad := bad) hg hr
    have hs0 : (0 : Int) ≤ (m : Int) := by omega
    have hs1 : (m : Int) ≤ (c : Int) := by omega
    have hs2 : (m : Int) ≤ (l.length : Int) := by omega
    have hdl : (l.drop m).length = l.length - m := List.length_drop
    by_cases hl0 : l.length = 0
    · obtain rfl : l = [] := List.eq_nil_of_length_eq_zero hl0
      obtain rfl : m = 0 := by simpa using hlt
      rcases A with _ | ⟨ab, ao, az⟩
      all_goals
        go_enter Tryz.func127, Tryz.ntmps127
        go_wp2
      all_goals
        go_ret
        refine ⟨_, _, [], [], bad, rfl, ⟨Nat.zero_le _, by first | exact hcm | (unfold maxLen; omega)⟩, ⟨rfl, .inl rfl⟩, ?_⟩
        exact and_assoc.1 ⟨hz [] _ _ [] (bytes_nil (by first | exact hcm | (unfold maxLen; omega))) (fun b hb => by cases hb) (by simp) _ (only_setCell (p := ⟨g, 0, none⟩) (grown_refl w (some g)) (.inl rfl) _) (HR.out.set 0 _), .inl ⟨Nat.le_refl _, rfl, rfl, rfl⟩⟩
    · obtain ⟨gb, off, rfl, hgb, hml, hcl⟩ := bytes_part HO.out hfp (Below.refl _ _) 0 m (by omega) (by omega)
      obtain ⟨gb', off', e, hgb', hml2, hcl2⟩ := bytes_part HO.out hfp (Below.refl _ _) m (l.length - m) (by omega) (by omega)
      injection e with e
      injection e with e1 e2 e3
      subst e1 e2
      have htk : (l.drop m).take (l.length - m) = l.drop m := List.take_of_length_le (by rw [hdl]; exact Nat.le_refl _)
      rw [htk] at hml2 hcl2
      simp only [List.drop_zero, Nat.add_zero] at hml hcl
      have hc0 : ¬ c = 0 := by omega
      have HCL := hide hcl
      have HCL2 := hide hcl2
      have HML2 := hide hml2
      clear hcl hcl2 hml2
      by_cases hcm' : c = m
      · have hnil : l.drop m = [] := List.eq_nil_of_length_eq_zero (by omega)
        have hsb : l.length - m = 0 := by omega
        go_enter Tryz.func127, Tryz.ntmps127
        go_wp2
        go_ret
        refine ⟨_, _, l.take m, [], bad, rfl, ⟨by omega, by first | exact hcm | (unfold maxLen at *; omega)⟩, ⟨hml, .inr ⟨gb, off, rfl, by simp [World.setCell]; omega, fun j hj => ?_⟩⟩, ?_⟩
        · exact ((below_of_grown (only_setCell (p := ⟨g, 0, none⟩) (grown_refl w (some g)) (.inl rfl) _) (Nat.le_refl g) (Nat.le_of_lt lr)).cell (p := ⟨gb, off + j, none⟩) hgb).trans (HCL.out j hj)
        exact and_assoc.1 ⟨hz [] _ _ [] (bytes_nil (by unfold maxLen; omega)) (fun b hb => by cases hb) (by simp) _ (only_setCell (p := ⟨g, 0, none⟩) (grown_refl w (some g)) (.inl rfl) _) (HR.out.set 0 _), .inl ⟨hlt, rfl, hnil.symm, rfl⟩⟩
      · go_enter Tryz.func127, Tryz.ntmps127
        go_wp2
        go_ret
        refine ⟨_, _, l.take m, l.drop m, bad, rfl, ⟨by omega, by first | exact hcm | (unfold maxLen at *; omega)⟩, ⟨hml, .inr ⟨gb, off, rfl, by simp [World.setCell]; omega, fun j hj => ?_⟩⟩, ?_⟩
        · exact ((below_of_grown (only_setCell (p := ⟨g, 0, none⟩) (grown_refl w (some g)) (.inl rfl) _) (Nat.le_refl g) (Nat.le_of_lt lr)).cell (p := ⟨gb, off + j, none⟩) hgb).trans (HCL.out j hj)
        obtain ⟨fpm, hom, hfm⟩ := bytes_mk (c := c - m) HCL2.out (by omega) (by unfold maxLen at *; omega)
        exact and_assoc.1 ⟨hz (l.drop m) _ _ fpm hom (fun b hb => by rw [hfm b hb]; exact hgb) (by omega) _ (only_setCell (p := ⟨g, 0, none⟩) (grown_refl w (some g)) (.inl rfl) _) (by rw [hdl]; exact HR.out.set 0 _), .inl ⟨hlt, rfl, rfl, rfl⟩⟩
  · have hmk := mk_bytes m hm
    go_enter Tryz.func127, Tryz.ntmps127
    go_wp2
    go_ret
    have hz := fun W (hg : w.grownBy W (some g)) hr => RdI.make HO.out hfp lr hL (w' := W) (L := L) (bad := true) hg hr
    have hsz : (w.setCell ⟨g, 1, none⟩ (.bool true)).heap.size = w.heap.size := by simp [World.setCell]
    have hRN := Row.new (w.setCell ⟨g, 1, none⟩ (.bool true)) 5 (u8s (List.replicate m 0))
    rw [hsz] at hRN
    refine ⟨_, m, List.replicate m 0, l, true, rfl, ⟨Nat.le_refl _, by unfold maxLen; omega⟩, ⟨by simp, .inr ⟨_, 0, rfl, by rw [World.size_alloc, hsz]; exact Nat.lt_succ_self _, fun j hj => ?_⟩⟩, (hz _ ?_ ?_).1, (hz _ ?_ ?_).2, .inr ⟨by omega, rfl, rfl, rfl⟩⟩
    · rw [hRN.cell]
      simp [u8s] at hj ⊢
      simp [hj]
    iterate 2
      · exact only_alloc (only_setCell (p := ⟨g, 1, none⟩) (grown_refl w (some g)) (.inl rfl) _) _
      · exact (HR.out.set 1 _).alloc _
theorem take_one (l : List UInt8) : pOne l = if 1 ≤ l.length then some (((((l.take 1).headD 0).toNat : Nat) : Int), l.drop 1) else none := by
  cases l <;> simp [pOne]
set_option maxRecDepth 100000 in
set_option maxHeartbeats 1000000 in
theorem numI_any {L l : List UInt8} {bad : Bool} {g : Nat} {w : World} (h : RdI w g L l bad) :
    Calls Tryz.prog 85 #[.pointer (some ⟨g, 0, none⟩)] w (OneOut RdI g L bad (pOne l) w) := by
  have HC := hide (takeI_any 1 (by omega) h)
  clear h
  go_enter Tryz.func85, Tryz.ntmps85
  go_wp2_with fail
  refine HC.out.mono ?_
  rintro e w2 ⟨B, c, xs, l', bad', rfl, -, hb, hr, hg, ho⟩
  have HR := hide hr
  have HG := hide hg
  have HO := hide ho
  obtain ⟨hx, hb | ⟨gb, o, rfl, hgb, hc⟩⟩ := hb
  · omega
  have hc0 := hc 0 (by omega)
  have HX := hide hx
  obtain ⟨x, rfl⟩ : ∃ x, xs = [x] := by
    match xs, hx with
    | [x], _ => exact ⟨x, rfl⟩
  simp only [List.getElem_cons_zero, Nat.add_zero] at hc0
  clear hr hg ho hc HC hx
  have hx := x.toNat_lt
  go_wp2
  go_ret
  refine ⟨(x.toNat : Int), l', bad', rfl, by omega, by omega, HR.out, HG.out, ?_⟩
  rcases HO.out with ⟨h1, h2, rfl, rfl⟩ | ⟨h1, h2, rfl, rfl⟩
  · have e : pOne l = some ((x.toNat : Int), l.drop 1) := by
      rw [take_one, if_pos h1, ← h2]
      rfl
    exact ⟨fun hb => ⟨hb, e⟩, fun hb => .inl hb⟩
  · exact ⟨fun hb => (by cases hb), fun _ => .inr (by rw [take_one, if_neg (by omega)])⟩
set_option maxRecDepth 100000 in
set_option maxHeartbeats 1000000 in
theorem textI_any {L l : List UInt8} {bad : Bool} {g : Nat} {w : World} (h : RdI w g L l bad) :
    Calls Tryz.prog 84 #[.pointer (some ⟨g, 0, none⟩)] w (StrOut RdI g L bad (pShort l) w) := by
  have HC := hide (numI_any h)
  clear h
  go_enter Tryz.func84, Tryz.ntmps84
  go_wp2_with fail
  refine HC.out.mono ?_
  rintro e w2 ⟨x, l1, bad1, rfl, hx0, hx1, h2, hg2, hok⟩
  obtain ⟨m, rfl⟩ : ∃ m : Nat, x = (m : Int) := ⟨x.toNat, by omega⟩
  have HT := hide (takeI_any m (by omega) h2)
  have HG2 := hide hg2
  have HOK := hide hok
  have HS : Hid (pShort l = match pOne l with | none => none | some (n, r) => if n.toNat ≤ r.length then some (ba (r.take n.toNat), r.drop n.toNat) else none) := hide (by cases l <;> rfl)
  clear h2 hg2 hok HC
  go_wp2_with fail
  refine HT.out.mono ?_
  rintro e w3 ⟨B, c, xs, l', bad', rfl, -, hb, hr, hg, ho⟩
  have HR := hide hr
  have HG := hide hg
  have HO := hide ho
  have hcv := hb.conv c
  have hxs := hb.1
  clear hb hr hg ho HT
  go_wp2
  go_ret
  refine ⟨ba xs, l', bad', rfl, by rw [ba_size]; omega, HR.out, only_trans HG2.out HG.out, ?_⟩
  rcases HO.out with ⟨h1, rfl, rfl, rfl⟩ | ⟨h1, rfl, rfl, rfl⟩
  · refine ⟨fun hb => ⟨(HOK.out.1 hb).1, ?_⟩, fun hb => (HOK.out.2 hb).imp id (fun e => by rw [HS.out, e])⟩
    rw [HS.out, (HOK.out.1 hb).2]
    simp only [Int.toNat_natCast]
    rw [if_pos h1]
  · refine ⟨fun hb => (by cases hb), fun _ => ?_⟩
    rcases hb : bad1 with _ | _
    · right
      rw [HS.out, (HOK.out.1 hb).2]
      simp only [Int.toNat_natCast]
      rw [if_neg (by omega)]
    · exact (HOK.out.2 hb).imp id (fun e => by rw [HS.out, e])
theorem or_nat (a b : Nat) (ha : a < 9223372036854775808) (hb : b < 9223372036854775808) : bits .or .i64 (a : Int) (b : Int) = ((a ||| b : Nat) : Int) := by
  have hx : a ||| b < 2 ^ 63 := Nat.or_lt_two_pow (by omega) (by omega)
  have h1 : (BitVec.ofInt 64 (a : Int)).toNat = a := by
    rw [BitVec.ofInt_natCast, BitVec.toNat_ofNat]; exact Nat.mod_eq_of_lt (by omega)
  have h2 : (BitVec.ofInt 64 (b : Int)).toNat = b := by
    rw [BitVec.ofInt_natCast, BitVec.toNat_ofNat]; exact Nat.mod_eq_of_lt (by omega)
  show IntKind.i64.wrap ((BitVec.ofInt 64 (a : Int) ||| BitVec.ofInt 64 (b : Int)).toNat : Int) = _
  rw [BitVec.toNat_or, h1, h2, IntKind.wrap_i64]
  omega
theorem and_nat (a : Nat) (ha : a < 9223372036854775808) : bits .and .i64 (a : Int) 127 = ((a % 128 : Nat) : Int) := by
  have h1 : (BitVec.ofInt 64 (a : Int)).toNat = a := by
    rw [BitVec.ofInt_natCast, BitVec.toNat_ofNat]; exact Nat.mod_eq_of_lt (by omega)
  have h2 : (BitVec.ofInt 64 127).toNat = 127 := rfl
  show IntKind.i64.wrap ((BitVec.ofInt 64 (a : Int) &&& BitVec.ofInt 64 127).toNat : Int) = _
  rw [BitVec.toNat_and, h1, h2, show (127 : Nat) = 2 ^ 7 - 1 from rfl, Nat.and_two_pow_sub_one_eq_mod, IntKind.wrap_i64]
  omega
theorem sev_bits {n y k q p : Nat} (hn : n < p) (hp : p = 128 ^ k) (hk : k < 5) (hq : y % 128 * p = q) (hy : y ≤ 255) : bits .or .i64 (n : Int) (wrap64 (bits .and .i64 (y : Int) 127 * 2 ^ (7 * k))) = ((n + q : Nat) : Int) := by
  have hpb : p ≤ 268435456 := by rw [hp]; exact Nat.le_trans (Nat.pow_le_pow_right (by decide) (show k ≤ 4 by omega)) (by decide)
  have h2p : (2 : Nat) ^ (7 * k) = p := by rw [hp, Nat.pow_mul]
  have hqb : q ≤ 127 * p := by rw [← hq]; exact Nat.mul_le_mul_right p (by omega)
  have e : bits .and .i64 (y : Int) 127 * 2 ^ (7 * k) = (q : Int) := by
    rw [and_nat y (by omega), ← hq, ← h2p]
    simp
  have e2 : wrap64 (q : Int) = (q : Int) := by simp only [wrap64]; omega
  rw [e, e2, or_nat n q (by omega) (by omega)]
  have h := Nat.shiftLeft_add_eq_or_of_lt (i := 7 * k) (b := n) (by rw [h2p]; exact hn) (y % 128)
  rw [Nat.shiftLeft_eq, h2p, hq] at h
  rw [Nat.or_comm, ← h, Nat.add_comm]
def SizeOut (g : Nat) (L : List UInt8) (bad : Bool) (l : List UInt8) (w : World) (e : Ending) (w' : World) : Prop :=
  ∃ (n : Nat) (l' : List UInt8) (bad' : Bool), e = .returned (.int .i64 (n : Int)) ∧ n ≤ 34359738368 ∧ RdI w' g L l' bad' ∧ w.grownBy w' (some g) ∧ Okr bad bad' (pSev true 5 1 0 l) n l'
set_option maxRecDepth 100000 in
set_option maxHeartbeats 1000000 in
theorem sizeI_any {L l1 : List UInt8} {bad1 : Bool} {g : Nat} {w : World} (h : RdI w g L l1 bad1) :
    Calls Tryz.prog 128 #[.pointer (some ⟨g, 0, none⟩)] w (SizeOut g L bad1 l1 w) := by
  have H2 := hide h
  clear h
  go_enter Tryz.func128, Tryz.ntmps128
  go_wp2
  go_loopw [3, 4] (fun nv kv wr => (∃ (k n p : Nat) (l' : List UInt8) (b : Bool), k ≤ 5 ∧ n < p ∧ p = 128 ^ k ∧ nv = .int .i64 (n : Int) ∧ kv = .int .i64 ((7 * k : Nat) : Int) ∧ RdI wr g L l' b ∧ SevAt true bad1 l1 b (5 - k) p n l') ∧ w.grownBy wr (some g)) (fun _ kv _ => 35 - (intOf kv).toNat)
  case atStart => exact ⟨⟨0, 0, 1, l1, bad1, by omega, by omega, rfl, rfl, rfl, H2.out, fun hb => ⟨hb, rfl⟩, fun hb => .inl hb⟩, grown_refl _ _⟩
  case round =>
    obtain ⟨⟨k, n, p, l', b, hk, hn, hp, rfl, rfl, hr, hs⟩, hg⟩ := hrel
    have HR := hide hr
    have HS := hide hs
    have HG := hide hg
    have HP := hide hp
    clear hr hs hg hp
    by_cases hlt : k < 5
    · have HC := hide (numI_any HR.out)
      have hpb : p ≤ 268435456 := by rw [HP.out]; exact Nat.le_trans (Nat.pow_le_pow_right (by decide) (show k ≤ 4 by omega)) (by decide)
      obtain ⟨r, hr⟩ : ∃ r, 5 - k = r + 1 := ⟨4 - k, by omega⟩
      have HRR := hide hr
      go_wp2_with fail
      refine HC.out.mono ?_
      rintro e w3 ⟨y, l3, b3, rfl, hy0, hy1, h3, hg3, hok3⟩
      obtain ⟨y, rfl⟩ : ∃ y' : Nat, y = (y' : Int) := ⟨y.toNat, by omega⟩
      have H3 := hide h3
      have HG3 := hide hg3
      have HOK3 := hide hok3
      clear h3 hg3 hok3 HC hr
      obtain ⟨q, hq⟩ : ∃ q : Nat, y % 128 * p = q := ⟨_, rfl⟩
      have hbt := sev_bits hn HP.out hlt hq (by omega)
      have hqb : q ≤ 127 * p := by rw [← hq]; exact Nat.mul_le_mul_right p (by omega)
      have HQ := hide hq
      have HBT := hide hbt
      clear hq hbt
      by_cases hy : y < 128
      · have HL := hide (show Okr bad1 b3 (pSev true 5 1 0 l1) (n + q) l3 from by
          have h := HS.out
          rw [HRR.out] at h
          have h' := h.last HOK3.out hy
          rw [HQ.out] at h'
          exact h')
        go_wp2
        go_ret
        exact ⟨n + q, l3, b3, by simp [Array.getD, HBT.out], by omega, H3.out, only_trans HG.out HG3.out, HL.out⟩
      · have HL := hide (show SevAt true bad1 l1 b3 (5 - (k + 1)) (p * 128) (n + q) l3 from by
          have h := HS.out
          rw [HRR.out] at h
          have h' := h.next HOK3.out hy
          rw [HQ.out] at h'
          have e : 5 - (k + 1) = r := by have := HRR.out; omega
          rw [e]
          exact h')
        go_wp2
        go_roundw
        case rel => exact ⟨⟨k + 1, n + q, p * 128, l3, b3, by omega, by omega, by rw [HP.out, Nat.pow_succ], by rw [HBT.out], by go_num, H3.out, HL.out⟩, only_trans HG.out HG3.out⟩
        case measure => simp [intOf]; omega
    · obtain rfl : k = 5 := by omega
      have HL := hide (show b = false → bad1 = true ∨ pSev true 5 1 0 l1 = none from fun hb => .inr ((HS.out.1 hb).2))
      have hr := HR.out
      obtain ⟨A, c, fp, hrow, ho, hfp, hL⟩ := hr
      have r1 := hrow.cell 1
      have f1 := hrow.frozen 1
      have lr := hrow.lt
      have HRW := hide hrow
      have HOW := hide ho
      clear hrow ho
      go_wp2
      go_ret
      have hz := fun W (hg : wr.grownBy W (some g)) hr => RdI.make HOW.out hfp lr hL (w' := W) (L := L) (bad := true) hg hr
      refine ⟨0, l', true, rfl, by omega, (hz _ ?_ ?_).1, only_trans HG.out (hz _ ?_ ?_).2, fun hb => (by cases hb), fun _ => ?_⟩
      · exact only_setCell (p := ⟨g, 1, none⟩) (grown_refl wr (some g)) (.inl rfl) _
      · exact HRW.out.set 1 _
      · exact only_setCell (p := ⟨g, 1, none⟩) (grown_refl wr (some g)) (.inl rfl) _
      · exact HRW.out.set 1 _
      · rcases hb : b with _ | _
        · exact HL.out hb
        · exact HS.out.2 hb
end Go.Proofs.YtnaecdoeldoipaaGreatDoor
set_option linter.unusedVariables false
set_option linter.unusedSimpArgs false
namespace Go.Proofs.YtnaecdoeldoipaaGreatDoor
open Go.ChangeShapes Go.WideShapes Go.ChangeAt Go.RowKit

theorem RdS.low {w w' : World} {g : Nat} {L l : List UInt8} {bad : Bool} {B : Nat} (h : RdS w g L l bad) (hb : Below B w w') (hB : g < B) : RdS w' g L l bad := by
  obtain ⟨A, c, n, fp, hr, ho, hfp, hn, hL, hl⟩ := h
  exact ⟨A, c, n, fp, hr.below hb hB, ho.below hb (hfp.mono (Nat.le_of_lt hB)), hfp, hn, hL, hl⟩
theorem RdI.low {w w' : World} {g : Nat} {L l : List UInt8} {bad : Bool} {B : Nat} (h : RdI w g L l bad) (hb : Below B w w') (hB : g < B) : RdI w' g L l bad := by
  obtain ⟨A, c, fp, hr, ho, hfp, hL⟩ := h
  exact ⟨A, c, fp, hr.below hb hB, ho.below hb (hfp.mono (Nat.le_of_lt hB)), hfp, hL⟩
theorem RdS.drewN {w : World} {g : Nat} {L l : List UInt8} {bad : Bool} (h : RdS w g L l bad) (n : Nat) : RdS (w.drewN n) g L l bad := h.below ⟨rfl, rfl, rfl, Nat.le_refl _, fun _ _ => rfl⟩
theorem RdI.drewN {w : World} {g : Nat} {L l : List UInt8} {bad : Bool} (h : RdI w g L l bad) (n : Nat) : RdI (w.drewN n) g L l bad := h.below ⟨rfl, rfl, rfl, Nat.le_refl _, fun _ _ => rfl⟩
theorem RdS.bad {w : World} {g : Nat} {L l : List UInt8} {bad : Bool} (h : RdS w g L l bad) : w.cell? ⟨g, 2, none⟩ = some (.bool bad) ∧ w.frozen? ⟨g, 2, none⟩ = false := by
  obtain ⟨A, c, n, fp, hr, _⟩ := h
  exact ⟨hr.cell 2, hr.frozen 2⟩
theorem RdI.bad {w : World} {g : Nat} {L l : List UInt8} {bad : Bool} (h : RdI w g L l bad) : w.cell? ⟨g, 1, none⟩ = some (.bool bad) ∧ w.frozen? ⟨g, 1, none⟩ = false := by
  obtain ⟨A, c, fp, hr, _⟩ := h
  exact ⟨hr.cell 1, hr.frozen 1⟩
theorem RdS.setBad {w : World} {g : Nat} {L l : List UInt8} {bad : Bool} (h : RdS w g L l bad) (b : Bool) : RdS (w.setCell ⟨g, 2, none⟩ (.bool b)) g L l b := by
  obtain ⟨A, c, n, fp, hr, ho, hfp, hn, hL, hl⟩ := h
  have hg := only_setCell (p := ⟨g, 2, none⟩) (grown_refl w (some g)) (.inl rfl) (.bool b)
  exact ⟨A, c, n, fp, hr.set 2 _, ho.below (below_of_grown hg (Nat.le_refl g) (Nat.le_of_lt hr.lt)) hfp, hfp, hn, hL, hl⟩
theorem RdI.setBad {w : World} {g : Nat} {L l : List UInt8} {bad : Bool} (h : RdI w g L l bad) (b : Bool) : RdI (w.setCell ⟨g, 1, none⟩ (.bool b)) g L l b := by
  obtain ⟨A, c, fp, hr, ho, hfp, hL⟩ := h
  have hg := only_setCell (p := ⟨g, 1, none⟩) (grown_refl w (some g)) (.inl rfl) (.bool b)
  exact ⟨A, c, fp, hr.set 1 _, ho.below (below_of_grown hg (Nat.le_refl g) (Nat.le_of_lt hr.lt)) hfp, hfp, hL⟩

/-! ### What is read, by the first byte -/
theorem pOne_none {l : List UInt8} (h : pOne l = none) : l = [] := by
  cases l with
  | nil => rfl
  | cons x r => simp [pOne] at h
theorem pTree_nil (strict : Bool) (f : Nat) : pTree strict f [] = none := by cases f <;> rfl
theorem pTree_one {strict : Bool} {f y : Nat} {l r : List UInt8} (h : pOne l = some ((y : Int), r)) : pTree strict (f + 1) l =
    if y = 1 then (pNum strict r).map (fun p => (.mk 1 p.1 .empty [] [], p.2)) else if y = 2 then (pShort r).map (fun p => (.mk 2 0 p.1 [] [], p.2)) else if y = 3 then (pOne r).map (fun p => (.mk 3 p.1 .empty [] [], p.2))
    else pMany (pTree strict f) y r := by
  cases l with
  | nil => simp [pOne] at h
  | cons s l =>
    simp only [pOne, Option.some.injEq, Prod.mk.injEq] at h
    obtain ⟨h1, rfl⟩ := h
    have h1 : s.toNat = y := by omega
    simp only [pTree, h1]
theorem okr_map {α β : Type} {bad bad' : Bool} {p : Option (α × List UInt8)} {v : α} {l' : List UInt8} (f : α → β) (h : Okr bad bad' p v l') : Okr bad bad' (p.map (fun q => (f q.1, q.2))) (f v) l' :=
  ⟨fun hb => ⟨(h.1 hb).1, by rw [(h.1 hb).2]; rfl⟩, fun hb => (h.2 hb).imp id (fun e => by rw [e]; rfl)⟩
def kidsMk (y : Nat) (p : List ByteArray × List Tree × List UInt8) : Tree × List UInt8 := (.mk (y : Int) 0 .empty p.1 p.2.1, p.2.2)
/-- so far the kids are read -/
def KidsAt (rd : List UInt8 → Option (Tree × List UInt8)) (y : Nat) (l0 : List UInt8) (b : Bool) (n : Nat) (ns : List ByteArray) (ks : List Tree) (l : List UInt8) : Prop :=
  (b = false → pMany rd y l0 = (pKids rd (y == 5) n ns ks l).map (kidsMk y)) ∧ (b = true → pMany rd y l0 = none)
theorem KidsAt.start {rd : List UInt8 → Option (Tree × List UInt8)} {y n : Nat} {l0 l : List UInt8} {b : Bool} (h : Okr false b (pOne l0) (n : Int) l) : KidsAt rd y l0 b n [] [] l := by
  refine ⟨fun hb => ?_, fun hb => ?_⟩
  · have e := (h.1 hb).2
    cases l0 with
    | nil => simp [pOne] at e
    | cons x r =>
      simp only [pOne, Option.some.injEq, Prod.mk.injEq] at e
      obtain ⟨h1, rfl⟩ := e
      have h1 : x.toNat = n := by omega
      simp only [pMany, h1]
      rfl
  · rcases h.2 hb with e | e
    · cases e
    · rw [pOne_none e]
      rfl
theorem KidsAt.form {rd : List UInt8 → Option (Tree × List UInt8)} {y n : Nat} (hy : y = 5) {l0 l l3 l4 : List UInt8} {ns : List ByteArray} {ks : List Tree} {s : ByteArray} {t : Tree} {b3 b4 : Bool} (h : KidsAt rd y l0 false (n + 1) ns ks l)
    (h1 : Okr false b3 (pShort l) s l3) (h2 : Okr b3 b4 (rd l3) t l4) : KidsAt rd y l0 b4 n (ns ++ [s]) (ks ++ [t]) l4 := by
  subst hy
  have hm := h.1 rfl
  have e5 : ((5 : Nat) == 5) = true := rfl
  refine ⟨fun hb => ?_, fun hb => ?_⟩
  · obtain ⟨e1, e2⟩ := h2.1 hb
    obtain ⟨_, e4⟩ := h1.1 e1
    rw [hm, e5]
    simp only [pKids, if_true, e4, e2]
  · rw [hm, e5]
    rcases h2.2 hb with e | e
    · rcases h1.2 e with e' | e'
      · cases e'
      · simp only [pKids, if_true, e']
        rfl
    · rcases hb3 : b3 with _ | _
      · obtain ⟨_, e4⟩ := h1.1 hb3
        simp only [pKids, if_true, e4, e]
        rfl
      · rcases h1.2 hb3 with e' | e'
        · cases e'
        · simp only [pKids, if_true, e']
          rfl
theorem KidsAt.bare {rd : List UInt8 → Option (Tree × List UInt8)} {y n : Nat} (hy : y ≠ 5) {l0 l l4 : List UInt8} {ns : List ByteArray} {ks : List Tree} {t : Tree} {b4 : Bool} (h : KidsAt rd y l0 false (n + 1) ns ks l)
    (h2 : Okr false b4 (rd l) t l4) : KidsAt rd y l0 b4 n ns (ks ++ [t]) l4 := by
  have hm := h.1 rfl
  have e5 : (y == 5) = false := by simpa using hy
  refine ⟨fun hb => ?_, fun hb => ?_⟩
  · obtain ⟨_, e2⟩ := h2.1 hb
    rw [hm, e5]
    simp only [pKids, Bool.false_eq_true, if_false, e2]
  · rw [hm, e5]
    rcases h2.2 hb with e | e
    · cases e
    · simp only [pKids, Bool.false_eq_true, if_false, e]
      rfl
theorem KidsAt.done {rd : List UInt8 → Option (Tree × List UInt8)} {y n : Nat} {l0 l : List UInt8} {ns : List ByteArray} {ks : List Tree} {b : Bool} (h : KidsAt rd y l0 b n ns ks l) (hn : b = false → n = 0) : Okr false b (pMany rd y l0) (.mk (y : Int) 0 .empty ns ks) l :=
  ⟨fun hb => ⟨rfl, by rw [h.1 hb, hn hb]; rfl⟩, fun hb => .inr (h.2 hb)⟩

/-! ### What is handed back -/
theorem leaf_ow (W : World) {s n : Int} {x : ByteArray} (hs : (Lit.int .i64 s).wf = true) (hn : (Lit.int .i64 n).wf = true) (hx : x.size ≤ maxLen) :
    OwC W (Tree.mk s n x [] []).cells [.int .i64 s, .int .i64 n, .string x, .slice none 0 0, .slice none 0 0] [] :=
  OwC.mTree (x := Tree.mk s n x [] []) (v1 := .slice none 0 0) (v2 := .slice none 0 0) (f1 := []) (f2 := []) hs hn hx (Ow.nil_ W 1 strC) (Ow.nil_ W 5 Tree.cells)
theorem kids_fin {w w5 : World} {b g : Nat} {s : Int} {v1 v2 : Value} {l1 : List ByteArray} {us1 : List Value} {l2 : List Tree} {us2 : List Value} {fi2 : List Nat} (hT : TreeAt w5 b s v1 l1 us1 v2 l2 us2 fi2) (hs : (Lit.int .i64 s).wf = true)
    (hg : w.grownBy w5 (some g)) (hb : w.heap.size < b) (vs : List Value) :
    ∃ fq, OwC (putN w5 w.heap.size 0 vs) (Tree.mk s 0 .empty l1 l2).cells (treeMk s v1 v2) fq ∧ New (putN w5 w.heap.size 0 vs) fq w.heap.size := by
  obtain ⟨p1, p2, o1, o2, hn⟩ := hT.toOw
  have hx := OwC.mTree (x := Tree.mk s 0 .empty l1 l2) hs wfz empty_le o1 o2
  have hgr := setN_grown vs 0 (grown_refl w5 (some w.heap.size))
  have hno : w.heap.size ∉ p1 ++ p2 := hn.out (by omega)
  exact ⟨p1 ++ p2, hx.grown hgr hn.lt hno, (hn.grown hgr (fun b e => by injection e with e; subst e; exact hno)).mono (by omega)⟩
end Go.Proofs.YtnaecdoeldoipaaGreatDoor
set_option linter.unusedVariables false
set_option linter.unusedSimpArgs false
namespace Go.Proofs.YtnaecdoeldoipaaGreatDoor
open Go.ChangeShapes Go.WideShapes Go.ChangeAt Go.RowKit

theorem Ow.bytesAt {w : World} {l : List UInt8} {A : Option Addr} {c : Nat} {fp : List Nat} (h : Ow w (.s 1 l.length (l.flatMap byteC)) (.slice A l.length c) fp) (hf : Lt fp w.heap.size) : BytesAt w A l.length l := by
  refine ⟨rfl, ?_⟩
  by_cases h0 : l.length = 0
  · exact .inl h0
  · obtain ⟨gb, off, rfl, hg, hl, hc⟩ := bytes_part h hf (Below.refl _ _) 0 l.length (by omega) (by omega)
    simp only [List.drop_zero, Nat.add_zero, List.take_length] at hc
    exact .inr ⟨gb, off, rfl, hg, hc⟩
set_option maxRecDepth 100000 in
theorem l4Same_any (a b : List UInt8) (A B : Option Addr) (c d : Nat) (w : World) (ha : BytesAt w A a.length a) (hb : BytesAt w B b.length b) :
    Calls Tryz.prog 91 #[.slice A a.length c, .slice B b.length d] w fun e w' => e = .returned (.bool (tb (a = b))) ∧ w = w' := by
  have h1 := ha.conv c
  have h2 := hb.conv d
  clear ha hb
  by_cases h : a = b
  · have hx := hide (tb_true h)
    have he : (ba a).toList = (ba b).toList := by rw [h]
    go_enter Tryz.func91, Tryz.ntmps91
    clear h
    go_wp2
    go_ret
    exact ⟨by rw [hx.out]; simp [he, Array.getD], rfl⟩
  · have hx := hide (tb_false h)
    have he : ¬ ((ba a).toList = (ba b).toList) := by simpa [ba, ByteArray.toList_eq] using h
    go_enter Tryz.func91, Tryz.ntmps91
    clear h
    go_wp2
    go_ret
    exact ⟨by rw [hx.out]; simp [he, Array.getD], rfl⟩
/-- as far as both are the same -/
theorem same_step {a b : List UInt8} (h : a.length = b.length) (n : Nat) (h1 : a.take n = b.take n) (hn : n < a.length) (hn' : n < b.length) (e : a[n] = b[n]) : a.take (n + 1) = b.take (n + 1) := by
  rw [List.take_succ_eq_append_getElem hn, List.take_succ_eq_append_getElem hn', h1, e]
set_option maxRecDepth 100000 in
theorem eqBytes_any (a b : List UInt8) (A B : Option Addr) (c d : Nat) (w : World) (ha : BytesAt w A a.length a) (hb : BytesAt w B b.length b) (hla : a.length ≤ 9223372036854775807) (hlb : b.length ≤ 9223372036854775807) :
    Calls Tryz.prog 87 #[.slice A a.length c, .slice B b.length d] w fun e w' => e = .returned (.bool (tb (a = b))) ∧ Below w.heap.size w w' := by
  by_cases hl : a.length = b.length
  rotate_left
  · have hx := hide (tb_false (fun h : a = b => hl (by rw [h])))
    have hli : ¬ ((a.length : Int) = (b.length : Int)) := by omega
    have HB := hide (Below.refl w.heap.size w)
    clear ha hb
    go_enter Tryz.func87, Tryz.ntmps87
    go_wp2
    go_ret
    exact ⟨by rw [hx.out]; rfl, HB.out⟩
  · have HA := hide ha
    have HBB := hide hb
    have HL := hide hl
    have hli : (a.length : Int) = (b.length : Int) := by omega
    clear ha hb
    go_enter Tryz.func87, Tryz.ntmps87
    clear hl
    go_wp2
    go_loopw [13] (fun iv wr => (∃ i : Nat, i ≤ a.length ∧ iv = .int .i64 (i : Int) ∧ a.take i = b.take i) ∧ Below w.heap.size w wr) (fun iv _ => a.length - (intOf iv).toNat)
    case atStart => exact ⟨⟨0, Nat.zero_le _, rfl, rfl⟩, Below.refl _ _⟩
    case round =>
      obtain ⟨⟨i, hi, rfl, he⟩, hb⟩ := hrel
      have HE := hide he
      have HB := hide hb
      clear he hb
      by_cases hlt : i < a.length
      · have hlt2 : i < b.length := by have := HL.out; omega
        obtain ⟨-, h0 | ⟨ga, oa, rfl, hga, hca⟩⟩ := HA.out
        · omega
        obtain ⟨-, h0 | ⟨gb, ob, rfl, hgb, hcb⟩⟩ := HBB.out
        · omega
        obtain ⟨x, hx⟩ : ∃ x, a[i]'hlt = x := ⟨_, rfl⟩
        obtain ⟨y, hy⟩ : ∃ y, b[i]'hlt2 = y := ⟨_, rfl⟩
        have c1 : wr.cell? ⟨ga, oa + i, none⟩ = some (.int .u8 (x.toNat : Int)) := hx ▸ (HB.out.cell (p := ⟨ga, oa + i, none⟩) hga).trans (hca i hlt)
        have c2 : wr.cell? ⟨gb, ob + i, none⟩ = some (.int .u8 (y.toNat : Int)) := hy ▸ (HB.out.cell (p := ⟨gb, ob + i, none⟩) hgb).trans (hcb i hlt2)
        have lga := Nat.lt_of_lt_of_le hga HB.out.size
        have lgb := Nat.lt_of_lt_of_le hgb HB.out.size
        have HST := hide (show x = y → a.take (i + 1) = b.take (i + 1) from fun e => same_step HL.out i HE.out hlt hlt2 (by rw [hx, hy, e]))
        have HNO := hide (show x ≠ y → tb (a = b) = false from fun e => tb_false (fun h => e (by subst h; rw [← hx, ← hy])))
        have HLT := hide (show i < a.length from hlt)
        have hltI : (i : Int) < (a.length : Int) := by omega
        have hltJ : (i : Int) < (b.length : Int) := by omega
        have hxb := x.toNat_lt
        have hyb := y.toNat_lt
        clear hca hcb hx hy
        by_cases hxy : x = y
        · have HS := hide (HST.out hxy)
          subst hxy
          clear HST HNO
          go_wp2
          go_quiet (fail)
          go_wp2
          go_roundw
          case rel => exact ⟨⟨i + 1, HLT.out, by go_num, HS.out⟩, below_drewN HB.out _⟩
          case measure => simp [intOf]; omega
        · have HF := hide (HNO.out hxy)
          have hne : ¬ ((x.toNat : Int) = (y.toNat : Int)) := fun e => hxy (UInt8.toNat_inj.1 (by omega))
          clear HST HNO hxy
          go_wp2
          go_quiet (fail)
          go_wp2
          go_ret
          exact ⟨by rw [HF.out]; rfl, below_drewN HB.out _⟩
      · obtain rfl : i = a.length := by omega
        have HT := hide (show tb (a = b) = true from tb_true (by have h := HE.out; rw [List.take_length, HL.out, List.take_length] at h; exact h))
        go_wp2
        go_ret
        exact ⟨by rw [HT.out]; rfl, HB.out⟩
end Go.Proofs.YtnaecdoeldoipaaGreatDoor
