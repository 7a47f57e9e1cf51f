/-
  Readers of bytes: the program's take, num, text and size.
-/
import Derived.Test.YtbjblchhenmgjaaRdr
import Derived.Laws.BitsAllLaws
set_option linter.unusedVariables false
set_option linter.unusedSimpArgs false
namespace Go.Proofs.Ytbjblchhenmgjaa
open Go.ChangeShapes Go.WideShapes Go.ChangeAt Go.RowKit

/-- the program's reader in block g, with l left -/
def RdI (w : World) (g : Nat) (L l : List UInt8) (bad : Bool) : Prop := ∃ (A : Option Addr) (c : Nat) (fp : List Nat), Row w g 117 [.slice A l.length c, .bool bad] ∧
  Ow w (.s 1 l.length (l.flatMap byteC)) (.slice A l.length c) fp ∧ Lt fp g ∧ l.length ≤ 9000
theorem RdI.lt {w : World} {g : Nat} {L l : List UInt8} {bad : Bool} (h : RdI w g L l bad) : g < w.heap.size := by
  obtain ⟨_, _, _, hr, _⟩ := h
  exact hr.lt
theorem RdI.below {w w' : World} {g : Nat} {L l : List UInt8} {bad : Bool} (h : RdI w g L l bad) (hb : Below w.heap.size w w') : RdI w' g L l bad := by
  obtain ⟨A, c, fp, hr, ho, hfp, hL⟩ := h
  exact ⟨A, c, fp, hr.below hb hr.lt, ho.below hb (hfp.mono (Nat.le_of_lt hr.lt)), hfp, hL⟩
/-- a slice of bytes, as it may be read -/
def BytesAt (w : World) (B : Option Addr) (m : Nat) (xs : List UInt8) : Prop := xs.length = m ∧ (m = 0 ∨ ∃ gb o, B = some ⟨gb, o, none⟩ ∧ gb < w.heap.size ∧ ∀ j (hj : j < xs.length), w.cell? ⟨gb, o + j, none⟩ = some (.int .u8 (xs[j].toNat : Int)))
theorem BytesAt.conv {w : World} {B : Option Addr} {m : Nat} {xs : List UInt8} (h : BytesAt w B m xs) (c : Nat) : (convert 22 9 (.slice B m c)).run Try.prog w = .ok (.string (ba xs)) w := by
  obtain ⟨rfl, h | ⟨gb, o, rfl, _, hc⟩⟩ := h
  · have e : xs = [] := List.eq_nil_of_length_eq_zero h
    subst e
    exact conv_zero w B c
  · exact conv_sub hc
theorem bytes_mk {W : World} {gb o c : Nat} {xs : List UInt8} (hc : ∀ j (hj : j < xs.length), W.cell? ⟨gb, o + j, none⟩ = some (.int .u8 (xs[j].toNat : Int))) (hcap : xs.length ≤ c) (hm : c ≤ maxLen) :
    ∃ fp, Ow W (.s 1 xs.length (xs.flatMap byteC)) (.slice (some ⟨gb, o, none⟩) xs.length c) fp ∧ ∀ b ∈ fp, b = gb := by
  by_cases h0 : xs.length = 0
  · refine ⟨[], ?_, fun b hb => by cases hb⟩
    unfold Ow
    exact ⟨by rw [flat_len byteC 1 byteC_len], _, c, rfl, hcap, hm, .inl ⟨h0, rfl⟩⟩
  · refine ⟨[gb], ?_, fun b hb => by simpa using hb⟩
    unfold Ow
    refine ⟨by rw [flat_len byteC 1 byteC_len], _, c, rfl, hcap, hm, .inr ⟨by omega, gb, o, [], rfl, ?_, rfl⟩⟩
    refine OwC.row _ (u8s_cells xs W) (fun j u hj => ?_)
    obtain ⟨hj', rfl⟩ := List.getElem?_eq_some_iff.1 hj
    have hj'' : j < xs.length := by simpa [u8s] using hj'
    rw [hc j hj'']
    simp [u8s]
theorem bytes_nil {W : World} {A : Option Addr} {c : Nat} (hm : c ≤ maxLen) : Ow W (.s 1 ([] : List UInt8).length (([] : List UInt8).flatMap byteC)) (.slice A ([] : List UInt8).length c) [] := by
  unfold Ow
  exact ⟨by simp, _, c, rfl, Nat.zero_le _, hm, .inl ⟨rfl, rfl⟩⟩
theorem info_u8 : (Try.prog.info? 5).map (fun i => (i.zero, i.size, i.bytes)) = some (some (.int .u8 0), 1, 1) := by kernel_rfl
set_option maxRecDepth 100000 in
theorem mk_bytes (m : Nat) (hm : m ≤ 65535) (W : World) : (Instr.makeSlice 22 (.int .i64 (m : Int)) (.int .i64 (m : Int))).run Try.prog W = .ok (.slice (some ⟨W.heap.size, 0, none⟩) m m) (W.alloc (.cells (u8s (List.replicate m 0)).toArray 5)) := by
  obtain ⟨i, hi, h0, h1, h2⟩ := info_parts info_u8
  have h := run_make (P := Try.prog) W 22 5 i (.int .u8 0) Try.underlying22 hi h0 .i64 .i64 (m : Int) (m : Int) (by omega) (Int.le_refl _) (by rw [h2]; omega) (by omega)
  rw [h]
  simp only [Int.toNat_natCast, h1, Nat.mul_one]
  congr 3
  apply Array.ext
  · simp [madeCells, u8s]
  · intro j h1 h2
    simp [madeCells, u8s, Value.cells, Nat.mod_one]
theorem RdI.make {w w' : World} {g : Nat} {L l : List UInt8} {A : Option Addr} {c : Nat} {fp : List Nat} {bad : Bool} (ho : Ow w (.s 1 l.length (l.flatMap byteC)) (.slice A l.length c) fp) (hfp : Lt fp g) (hlt : g < w.heap.size) (hL : l.length ≤ 9000)
    (hg : w.grownBy w' (some g)) (hr : Row w' g 117 [.slice A l.length c, .bool bad]) : RdI w' g L l bad ∧ w.grownBy w' (some g) :=
  ⟨⟨A, c, fp, hr, ho.below (below_of_grown hg (Nat.le_refl g) (Nat.le_of_lt hlt)) hfp, hfp, hL⟩, hg⟩
def TakeOut (g : Nat) (L l : List UInt8) (m : Nat) (bad : Bool) (w : World) (e : Ending) (w' : World) : Prop :=
  ∃ (B : Option Addr) (c : Nat) (xs l' : List UInt8) (bad' : Bool), e = .returned (.slice B m c) ∧ (m ≤ c ∧ c ≤ maxLen) ∧ BytesAt w' B m xs ∧ RdI w' g L l' bad' ∧ w.grownBy w' (some g) ∧
    ((m ≤ l.length ∧ xs = l.take m ∧ l' = l.drop m ∧ bad' = bad) ∨ (l.length < m ∧ xs = List.replicate m 0 ∧ l' = l ∧ bad' = true))
set_option maxRecDepth 100000 in
set_option maxHeartbeats 1000000 in
theorem takeI_any {L l : List UInt8} {bad : Bool} {g : Nat} {w : World} (m : Nat) (hm : m ≤ 65535) (h : RdI w g L l bad) :
    Calls Try.prog 89 #[.pointer (some ⟨g, 0, none⟩), .int .i64 (m : Int)] w (TakeOut g L l m bad w) := by
  obtain ⟨A, c, fp, hr, ho, hfp, hL⟩ := h
  have r0 := hr.cell 0
  have r1 := hr.cell 1
  have lr := hr.lt
  have f0 := hr.frozen 0
  have f1 := hr.frozen 1
  have HR := hide hr
  have HO := hide ho
  have hc := ho.nlen.2.1
  have hcm := ho.nlen.2.2
  clear hr ho
  by_cases hlt : m ≤ l.length
  · have hz := fun (l' : List UInt8) (A' : Option Addr) (c' : Nat) (fp' : List Nat) (ho' : Ow w (.s 1 l'.length (l'.flatMap byteC)) (.slice A' l'.length c') fp') (hf' : Lt fp' g) (hL' : l'.length ≤ 9000) W (hg : w.grownBy W (some g)) hr => RdI.make ho' hf' lr hL' (w' := W) (L := L) (bad := bad) hg hr
    have hs0 : (0 : Int) ≤ (m : Int) := by omega
    have hs1 : (m : Int) ≤ (c : Int) := by omega
    have hs2 : (m : Int) ≤ (l.length : Int) := by omega
    have hdl : (l.drop m).length = l.length - m := List.length_drop
    by_cases hl0 : l.length = 0
    · obtain rfl : l = [] := List.eq_nil_of_length_eq_zero hl0
      obtain rfl : m = 0 := by simpa using hlt
      rcases A with _ | ⟨ab, ao, az⟩
      all_goals
        go_enter Try.func89, Try.ntmps89
        go_wp2
      all_goals
        go_ret
        refine ⟨_, _, [], [], bad, rfl, ⟨Nat.zero_le _, by first | exact hcm | (unfold maxLen; omega)⟩, ⟨rfl, .inl rfl⟩, ?_⟩
        exact and_assoc.1 ⟨hz [] _ _ [] (bytes_nil (by first | exact hcm | (unfold maxLen; omega))) (fun b hb => by cases hb) (by simp) _ (only_setCell (p := ⟨g, 0, none⟩) (grown_refl w (some g)) (.inl rfl) _) (HR.out.set 0 _), .inl ⟨Nat.le_refl _, rfl, rfl, rfl⟩⟩
    · obtain ⟨gb, off, rfl, hgb, hml, hcl⟩ := bytes_part HO.out hfp (Below.refl _ _) 0 m (by omega) (by omega)
      obtain ⟨gb', off', e, hgb', hml2, hcl2⟩ := bytes_part HO.out hfp (Below.refl _ _) m (l.length - m) (by omega) (by omega)
      injection e with e
      injection e with e1 e2 e3
      subst e1 e2
      have htk : (l.drop m).take (l.length - m) = l.drop m := List.take_of_length_le (by rw [hdl]; exact Nat.le_refl _)
      rw [htk] at hml2 hcl2
      simp only [List.drop_zero, Nat.add_zero] at hml hcl
      have hc0 : ¬ c = 0 := by omega
      have HCL := hide hcl
      have HCL2 := hide hcl2
      have HML2 := hide hml2
      clear hcl hcl2 hml2
      by_cases hcm' : c = m
      · have hnil : l.drop m = [] := List.eq_nil_of_length_eq_zero (by omega)
        have hsb : l.length - m = 0 := by omega
        go_enter Try.func89, Try.ntmps89
        go_wp2
        go_ret
        refine ⟨_, _, l.take m, [], bad, rfl, ⟨by omega, by first | exact hcm | (unfold maxLen at *; omega)⟩, ⟨hml, .inr ⟨gb, off, rfl, by simp [World.setCell]; omega, fun j hj => ?_⟩⟩, ?_⟩
        · exact ((below_of_grown (only_setCell (p := ⟨g, 0, none⟩) (grown_refl w (some g)) (.inl rfl) _) (Nat.le_refl g) (Nat.le_of_lt lr)).cell (p := ⟨gb, off + j, none⟩) hgb).trans (HCL.out j hj)
        exact and_assoc.1 ⟨hz [] _ _ [] (bytes_nil (by unfold maxLen; omega)) (fun b hb => by cases hb) (by simp) _ (only_setCell (p := ⟨g, 0, none⟩) (grown_refl w (some g)) (.inl rfl) _) (HR.out.set 0 _), .inl ⟨hlt, rfl, hnil.symm, rfl⟩⟩
      · go_enter Try.func89, Try.ntmps89
        go_wp2
        go_ret
        refine ⟨_, _, l.take m, l.drop m, bad, rfl, ⟨by omega, by first | exact hcm | (unfold maxLen at *; omega)⟩, ⟨hml, .inr ⟨gb, off, rfl, by simp [World.setCell]; omega, fun j hj => ?_⟩⟩, ?_⟩
        · exact ((below_of_grown (only_setCell (p := ⟨g, 0, none⟩) (grown_refl w (some g)) (.inl rfl) _) (Nat.le_refl g) (Nat.le_of_lt lr)).cell (p := ⟨gb, off + j, none⟩) hgb).trans (HCL.out j hj)
        obtain ⟨fpm, hom, hfm⟩ := bytes_mk (c := c - m) HCL2.out (by omega) (by unfold maxLen at *; omega)
        exact and_assoc.1 ⟨hz (l.drop m) _ _ fpm hom (fun b hb => by rw [hfm b hb]; exact hgb) (by omega) _ (only_setCell (p := ⟨g, 0, none⟩) (grown_refl w (some g)) (.inl rfl) _) (by rw [hdl]; exact HR.out.set 0 _), .inl ⟨hlt, rfl, rfl, rfl⟩⟩
  · have hmk := mk_bytes m hm
    go_enter Try.func89, Try.ntmps89
    go_wp2
    go_ret
    have hz := fun W (hg : w.grownBy W (some g)) hr => RdI.make HO.out hfp lr hL (w' := W) (L := L) (bad := true) hg hr
    have hsz : (w.setCell ⟨g, 1, none⟩ (.bool true)).heap.size = w.heap.size := by simp [World.setCell]
    have hRN := Row.new (w.setCell ⟨g, 1, none⟩ (.bool true)) 5 (u8s (List.replicate m 0))
    rw [hsz] at hRN
    refine ⟨_, m, List.replicate m 0, l, true, rfl, ⟨Nat.le_refl _, by unfold maxLen; omega⟩, ⟨by simp, .inr ⟨_, 0, rfl, by rw [World.size_alloc, hsz]; exact Nat.lt_succ_self _, fun j hj => ?_⟩⟩, (hz _ ?_ ?_).1, (hz _ ?_ ?_).2, .inr ⟨by omega, rfl, rfl, rfl⟩⟩
    · rw [hRN.cell]
      simp [u8s] at hj ⊢
      simp [hj]
    iterate 2
      · exact only_alloc (only_setCell (p := ⟨g, 1, none⟩) (grown_refl w (some g)) (.inl rfl) _) _
      · exact (HR.out.set 1 _).alloc _
theorem take_one (l : List UInt8) : pOne l = if 1 ≤ l.length then some (((((l.take 1).headD 0).toNat : Nat) : Int), l.drop 1) else none := by
  cases l <;> simp [pOne]
set_option maxRecDepth 100000 in
set_option maxHeartbeats 1000000 in
theorem numI_any {L l : List UInt8} {bad : Bool} {g : Nat} {w : World} (h : RdI w g L l bad) :
    Calls Try.prog 81 #[.pointer (some ⟨g, 0, none⟩)] w (OneOut RdI g L bad (pOne l) w) := by
  have HC := hide (takeI_any 1 (by omega) h)
  clear h
  go_enter Try.func81, Try.ntmps81
  go_wp2_with fail
  refine HC.out.mono ?_
  rintro e w2 ⟨B, c, xs, l', bad', rfl, -, hb, hr, hg, ho⟩
  have HR := hide hr
  have HG := hide hg
  have HO := hide ho
  obtain ⟨hx, hb | ⟨gb, o, rfl, hgb, hc⟩⟩ := hb
  · omega
  have hc0 := hc 0 (by omega)
  have HX := hide hx
  obtain ⟨x, rfl⟩ : ∃ x, xs = [x] := by
    match xs, hx with
    | [x], _ => exact ⟨x, rfl⟩
  simp only [List.getElem_cons_zero, Nat.add_zero] at hc0
  clear hr hg ho hc HC hx
  have hx := x.toNat_lt
  go_wp2
  go_ret
  refine ⟨(x.toNat : Int), l', bad', rfl, by omega, by omega, HR.out, HG.out, ?_⟩
  rcases HO.out with ⟨h1, h2, rfl, rfl⟩ | ⟨h1, h2, rfl, rfl⟩
  · have e : pOne l = some ((x.toNat : Int), l.drop 1) := by
      rw [take_one, if_pos h1, ← h2]
      rfl
    exact ⟨fun hb => ⟨hb, e⟩, fun hb => .inl hb⟩
  · exact ⟨fun hb => (by cases hb), fun _ => .inr (by rw [take_one, if_neg (by omega)])⟩
set_option maxRecDepth 100000 in
set_option maxHeartbeats 1000000 in
theorem textI_any {L l : List UInt8} {bad : Bool} {g : Nat} {w : World} (h : RdI w g L l bad) :
    Calls Try.prog 80 #[.pointer (some ⟨g, 0, none⟩)] w (StrOut RdI g L bad (pShort l) w) := by
  have HC := hide (numI_any h)
  clear h
  go_enter Try.func80, Try.ntmps80
  go_wp2_with fail
  refine HC.out.mono ?_
  rintro e w2 ⟨x, l1, bad1, rfl, hx0, hx1, h2, hg2, hok⟩
  obtain ⟨m, rfl⟩ : ∃ m : Nat, x = (m : Int) := ⟨x.toNat, by omega⟩
  have HT := hide (takeI_any m (by omega) h2)
  have HG2 := hide hg2
  have HOK := hide hok
  have HS : Hid (pShort l = match pOne l with | none => none | some (n, r) => if n.toNat ≤ r.length then some (ba (r.take n.toNat), r.drop n.toNat) else none) := hide (by cases l <;> rfl)
  clear h2 hg2 hok HC
  go_wp2_with fail
  refine HT.out.mono ?_
  rintro e w3 ⟨B, c, xs, l', bad', rfl, -, hb, hr, hg, ho⟩
  have HR := hide hr
  have HG := hide hg
  have HO := hide ho
  have hcv := hb.conv c
  have hxs := hb.1
  clear hb hr hg ho HT
  go_wp2
  go_ret
  refine ⟨ba xs, l', bad', rfl, by rw [ba_size]; omega, HR.out, only_trans HG2.out HG.out, ?_⟩
  rcases HO.out with ⟨h1, rfl, rfl, rfl⟩ | ⟨h1, rfl, rfl, rfl⟩
  · refine ⟨fun hb => ⟨(HOK.out.1 hb).1, ?_⟩, fun hb => (HOK.out.2 hb).imp id (fun e => by rw [HS.out, e])⟩
    rw [HS.out, (HOK.out.1 hb).2]
    simp only [Int.toNat_natCast]
    rw [if_pos h1]
  · refine ⟨fun hb => (by cases hb), fun _ => ?_⟩
    rcases hb : bad1 with _ | _
    · right
      rw [HS.out, (HOK.out.1 hb).2]
      simp only [Int.toNat_natCast]
      rw [if_neg (by omega)]
    · exact (HOK.out.2 hb).imp id (fun e => by rw [HS.out, e])
theorem or_nat (a b : Nat) (ha : a < 9223372036854775808) (hb : b < 9223372036854775808) : bits .or .i64 (a : Int) (b : Int) = ((a ||| b : Nat) : Int) := by
  have hx : a ||| b < 2 ^ 63 := Nat.or_lt_two_pow (by omega) (by omega)
  have h1 : (BitVec.ofInt 64 (a : Int)).toNat = a := by
    rw [BitVec.ofInt_natCast, BitVec.toNat_ofNat]; exact Nat.mod_eq_of_lt (by omega)
  have h2 : (BitVec.ofInt 64 (b : Int)).toNat = b := by
    rw [BitVec.ofInt_natCast, BitVec.toNat_ofNat]; exact Nat.mod_eq_of_lt (by omega)
  show IntKind.i64.wrap ((BitVec.ofInt 64 (a : Int) ||| BitVec.ofInt 64 (b : Int)).toNat : Int) = _
  rw [BitVec.toNat_or, h1, h2, IntKind.wrap_i64]
  omega
theorem and_nat (a : Nat) (ha : a < 9223372036854775808) : bits .and .i64 (a : Int) 127 = ((a % 128 : Nat) : Int) := by
  have h1 : (BitVec.ofInt 64 (a : Int)).toNat = a := by
    rw [BitVec.ofInt_natCast, BitVec.toNat_ofNat]; exact Nat.mod_eq_of_lt (by omega)
  have h2 : (BitVec.ofInt 64 127).toNat = 127 := rfl
  show IntKind.i64.wrap ((BitVec.ofInt 64 (a : Int) &&& BitVec.ofInt 64 127).toNat : Int) = _
  rw [BitVec.toNat_and, h1, h2, show (127 : Nat) = 2 ^ 7 - 1 from rfl, Nat.and_two_pow_sub_one_eq_mod, IntKind.wrap_i64]
  omega
theorem sev_bits {n y k q p : Nat} (hn : n < p) (hp : p = 128 ^ k) (hk : k < 5) (hq : y % 128 * p = q) (hy : y ≤ 255) : bits .or .i64 (n : Int) (wrap64 (bits .and .i64 (y : Int) 127 * 2 ^ (7 * k))) = ((n + q : Nat) : Int) := by
  have hpb : p ≤ 268435456 := by rw [hp]; exact Nat.le_trans (Nat.pow_le_pow_right (by decide) (show k ≤ 4 by omega)) (by decide)
  have h2p : (2 : Nat) ^ (7 * k) = p := by rw [hp, Nat.pow_mul]
  have hqb : q ≤ 127 * p := by rw [← hq]; exact Nat.mul_le_mul_right p (by omega)
  have e : bits .and .i64 (y : Int) 127 * 2 ^ (7 * k) = (q : Int) := by
    rw [and_nat y (by omega), ← hq, ← h2p]
    simp
  have e2 : wrap64 (q : Int) = (q : Int) := by simp only [wrap64]; omega
  rw [e, e2, or_nat n q (by omega) (by omega)]
  have h := Nat.shiftLeft_add_eq_or_of_lt (i := 7 * k) (b := n) (by rw [h2p]; exact hn) (y % 128)
  rw [Nat.shiftLeft_eq, h2p, hq] at h
  rw [Nat.or_comm, ← h, Nat.add_comm]
def SizeOut (g : Nat) (L : List UInt8) (bad : Bool) (l : List UInt8) (w : World) (e : Ending) (w' : World) : Prop :=
  ∃ (n : Nat) (l' : List UInt8) (bad' : Bool), e = .returned (.int .i64 (n : Int)) ∧ n ≤ 34359738368 ∧ RdI w' g L l' bad' ∧ w.grownBy w' (some g) ∧ Okr bad bad' (pSev true 5 1 0 l) n l'
set_option maxRecDepth 100000 in
set_option maxHeartbeats 1000000 in
theorem sizeI_any {L l1 : List UInt8} {bad1 : Bool} {g : Nat} {w : World} (h : RdI w g L l1 bad1) :
    Calls Try.prog 165 #[.pointer (some ⟨g, 0, none⟩)] w (SizeOut g L bad1 l1 w) := by
  have H2 := hide h
  clear h
  go_enter Try.func165, Try.ntmps165
  go_wp2
  go_loopw [3, 4] (fun nv kv wr => (∃ (k n p : Nat) (l' : List UInt8) (b : Bool), k ≤ 5 ∧ n < p ∧ p = 128 ^ k ∧ nv = .int .i64 (n : Int) ∧ kv = .int .i64 ((7 * k : Nat) : Int) ∧ RdI wr g L l' b ∧ SevAt true bad1 l1 b (5 - k) p n l') ∧ w.grownBy wr (some g)) (fun _ kv _ => 35 - (intOf kv).toNat)
  case atStart => exact ⟨⟨0, 0, 1, l1, bad1, by omega, by omega, rfl, rfl, rfl, H2.out, fun hb => ⟨hb, rfl⟩, fun hb => .inl hb⟩, grown_refl _ _⟩
  case round =>
    obtain ⟨⟨k, n, p, l', b, hk, hn, hp, rfl, rfl, hr, hs⟩, hg⟩ := hrel
    have HR := hide hr
    have HS := hide hs
    have HG := hide hg
    have HP := hide hp
    clear hr hs hg hp
    by_cases hlt : k < 5
    · have HC := hide (numI_any HR.out)
      have hpb : p ≤ 268435456 := by rw [HP.out]; exact Nat.le_trans (Nat.pow_le_pow_right (by decide) (show k ≤ 4 by omega)) (by decide)
      obtain ⟨r, hr⟩ : ∃ r, 5 - k = r + 1 := ⟨4 - k, by omega⟩
      have HRR := hide hr
      go_wp2_with fail
      refine HC.out.mono ?_
      rintro e w3 ⟨y, l3, b3, rfl, hy0, hy1, h3, hg3, hok3⟩
      obtain ⟨y, rfl⟩ : ∃ y' : Nat, y = (y' : Int) := ⟨y.toNat, by omega⟩
      have H3 := hide h3
      have HG3 := hide hg3
      have HOK3 := hide hok3
      clear h3 hg3 hok3 HC hr
      obtain ⟨q, hq⟩ : ∃ q : Nat, y % 128 * p = q := ⟨_, rfl⟩
      have hbt := sev_bits hn HP.out hlt hq (by omega)
      have hqb : q ≤ 127 * p := by rw [← hq]; exact Nat.mul_le_mul_right p (by omega)
      have HQ := hide hq
      have HBT := hide hbt
      clear hq hbt
      by_cases hy : y < 128
      · have HL := hide (show Okr bad1 b3 (pSev true 5 1 0 l1) (n + q) l3 from by
          have h := HS.out
          rw [HRR.out] at h
          have h' := h.last HOK3.out hy
          rw [HQ.out] at h'
          exact h')
        go_wp2
        go_ret
        exact ⟨n + q, l3, b3, by simp [Array.getD, HBT.out], by omega, H3.out, only_trans HG.out HG3.out, HL.out⟩
      · have HL := hide (show SevAt true bad1 l1 b3 (5 - (k + 1)) (p * 128) (n + q) l3 from by
          have h := HS.out
          rw [HRR.out] at h
          have h' := h.next HOK3.out hy
          rw [HQ.out] at h'
          have e : 5 - (k + 1) = r := by have := HRR.out; omega
          rw [e]
          exact h')
        go_wp2
        go_roundw
        case rel => exact ⟨⟨k + 1, n + q, p * 128, l3, b3, by omega, by omega, by rw [HP.out, Nat.pow_succ], by rw [HBT.out], by go_num, H3.out, HL.out⟩, only_trans HG.out HG3.out⟩
        case measure => simp [intOf]; omega
    · obtain rfl : k = 5 := by omega
      have HL := hide (show b = false → bad1 = true ∨ pSev true 5 1 0 l1 = none from fun hb => .inr ((HS.out.1 hb).2))
      have hr := HR.out
      obtain ⟨A, c, fp, hrow, ho, hfp, hL⟩ := hr
      have r1 := hrow.cell 1
      have f1 := hrow.frozen 1
      have lr := hrow.lt
      have HRW := hide hrow
      have HOW := hide ho
      clear hrow ho
      go_wp2
      go_ret
      have hz := fun W (hg : wr.grownBy W (some g)) hr => RdI.make HOW.out hfp lr hL (w' := W) (L := L) (bad := true) hg hr
      refine ⟨0, l', true, rfl, by omega, (hz _ ?_ ?_).1, only_trans HG.out (hz _ ?_ ?_).2, fun hb => (by cases hb), fun _ => ?_⟩
      · exact only_setCell (p := ⟨g, 1, none⟩) (grown_refl wr (some g)) (.inl rfl) _
      · exact HRW.out.set 1 _
      · exact only_setCell (p := ⟨g, 1, none⟩) (grown_refl wr (some g)) (.inl rfl) _
      · exact HRW.out.set 1 _
      · rcases hb : b with _ | _
        · exact HL.out hb
        · exact HS.out.2 hb
end Go.Proofs.Ytbjblchhenmgjaa
