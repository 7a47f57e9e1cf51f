/-
  Readers of bytes: the reference's one, short and num.
-/
import Derived.Test.YtbjblchhenmgjaaUnp
import Derived.Test.YtbjblchhenmgjaaByt
import Derived.Test.YtbjblchhenmgjaaFirst
import Derived.Deep.RegionHeld3
import Derived.StillTailTactics
import Derived.BigQuiet
set_option linter.unusedVariables false
set_option linter.unusedSimpArgs false
namespace Go.Proofs.Ytbjblchhenmgjaa
open Go.ChangeShapes Go.WideShapes Go.ChangeAt Go.RowKit

/-- what a reader answers: it stays good if it was good and the bytes are as they must be -/
def Okr {α : Type} (bad bad' : Bool) (p : Option (α × List UInt8)) (v : α) (l' : List UInt8) : Prop := (bad' = false → bad = false ∧ p = some (v, l')) ∧ (bad' = true → bad = true ∨ p = none)
/-- the reference's reader in block g: the bytes L, of which l are left -/
def RdS (w : World) (g : Nat) (L l : List UInt8) (bad : Bool) : Prop := ∃ (A : Option Addr) (c n : Nat) (fp : List Nat), Row w g 109 [.slice A L.length c, .int .i64 (n : Int), .bool bad] ∧
  Ow w (.s 1 L.length (L.flatMap byteC)) (.slice A L.length c) fp ∧ Lt fp g ∧ n ≤ L.length ∧ L.length ≤ 9000 ∧ l = L.drop n
theorem RdS.lt {w : World} {g : Nat} {L l : List UInt8} {bad : Bool} (h : RdS w g L l bad) : g < w.heap.size := by
  obtain ⟨_, _, _, _, hr, _⟩ := h
  exact hr.lt
theorem RdS.below {w w' : World} {g : Nat} {L l : List UInt8} {bad : Bool} (h : RdS w g L l bad) (hb : Below w.heap.size w w') : RdS w' g L l bad := by
  obtain ⟨A, c, n, fp, hr, ho, hfp, hn, hL, hl⟩ := h
  exact ⟨A, c, n, fp, hr.below hb hr.lt, ho.below hb (hfp.mono (Nat.le_of_lt hr.lt)), hfp, hn, hL, hl⟩
theorem RdS.make {w w' : World} {g : Nat} {L : List UInt8} {A : Option Addr} {c n : Nat} {fp : List Nat} {bad : Bool} (ho : Ow w (.s 1 L.length (L.flatMap byteC)) (.slice A L.length c) fp) (hfp : Lt fp g) (hlt : g < w.heap.size) (hL : L.length ≤ 9000) (hn : n ≤ L.length)
    (hg : w.grownBy w' (some g)) (hr : Row w' g 109 [.slice A L.length c, .int .i64 (n : Int), .bool bad]) : RdS w' g L (L.drop n) bad ∧ w.grownBy w' (some g) :=
  ⟨⟨A, c, n, fp, hr, ho.below (below_of_grown hg (Nat.le_refl g) (Nat.le_of_lt hlt)) hfp, hfp, hn, hL, rfl⟩, hg⟩
def OneOut (R : World → Nat → List UInt8 → List UInt8 → Bool → Prop) (g : Nat) (L : List UInt8) (bad : Bool) (p : Option (Int × List UInt8)) (w : World) (e : Ending) (w' : World) : Prop :=
  ∃ (x : Int) (l' : List UInt8) (bad' : Bool), e = .returned (.int .i64 x) ∧ 0 ≤ x ∧ x ≤ 255 ∧ R w' g L l' bad' ∧ w.grownBy w' (some g) ∧ Okr bad bad' p x l'
def NumOut (R : World → Nat → List UInt8 → List UInt8 → Bool → Prop) (g : Nat) (L : List UInt8) (bad : Bool) (p : Option (Int × List UInt8)) (w : World) (e : Ending) (w' : World) : Prop :=
  ∃ (x : Int) (l' : List UInt8) (bad' : Bool), e = .returned (.int .i64 x) ∧ -34359738368 ≤ x ∧ x ≤ 34359738368 ∧ R w' g L l' bad' ∧ w.grownBy w' (some g) ∧ Okr bad bad' p x l'
def StrOut (R : World → Nat → List UInt8 → List UInt8 → Bool → Prop) (g : Nat) (L : List UInt8) (bad : Bool) (p : Option (ByteArray × List UInt8)) (w : World) (e : Ending) (w' : World) : Prop :=
  ∃ (x : ByteArray) (l' : List UInt8) (bad' : Bool), e = .returned (.string x) ∧ x.size ≤ 255 ∧ R w' g L l' bad' ∧ w.grownBy w' (some g) ∧ Okr bad bad' p x l'
def TreeOut (R : World → Nat → List UInt8 → List UInt8 → Bool → Prop) (g : Nat) (L : List UInt8) (bad : Bool) (p : Option (Tree × List UInt8)) (w : World) (e : Ending) (w' : World) : Prop :=
  ∃ (t : Tree) (us : List Value) (fq : List Nat) (l' : List UInt8) (bad' : Bool), e = .returned (.agg us.toArray) ∧ OwC w' t.cells us fq ∧ New w' fq w.heap.size ∧ R w' g L l' bad' ∧ w.grownBy w' (some g) ∧ Okr bad bad' p t l'
set_option maxRecDepth 100000 in
set_option maxHeartbeats 1000000 in
theorem oneS_any {L l : List UInt8} {bad : Bool} {g : Nat} {w : World} (h : RdS w g L l bad) :
    Calls Try.prog 75 #[.pointer (some ⟨g, 0, none⟩)] w (OneOut RdS g L bad (pOne l) w) := by
  obtain ⟨A, c, n, fp, hr, ho, hfp, hn, hL, rfl⟩ := h
  have r0 := hr.cell 0
  have r1 := hr.cell 1
  have r2 := hr.cell 2
  have lr := hr.lt
  have f1 := hr.frozen 1
  have f2 := hr.frozen 2
  have HR := hide hr
  have HO := hide ho
  have HC := hide ho.nlen
  have hc := ho.nlen.2.1
  by_cases hlt : n < L.length
  · obtain ⟨gb, off, rfl, hgm, hcell, -⟩ := bytes_at ho hlt
    have hgl : gb < g := hfp gb hgm
    have hx := (L[n]).toNat_lt
    have HD := hide (show pOne (L.drop n) = some (((L[n]).toNat : Int), L.drop (n + 1)) from by rw [List.drop_eq_getElem_cons hlt]; rfl)
    clear hr ho
    generalize L[n] = b at *
    go_enter Try.func75, Try.ntmps75
    go_wp2
    go_quiet (fail)
    go_wp2
    go_quiet (fail)
    go_wp2
    go_ret
    have hm := fun W (hg : w.grownBy W (some g)) hr => RdS.make HO.out hfp lr hL (n := n + 1) (w' := W) (bad := bad) hlt hg hr
    refine ⟨(b.toNat : Int), L.drop (n + 1), bad, rfl, by omega, by omega, (hm _ ?_ ?_).1, (hm _ ?_ ?_).2, fun hb => ⟨hb, HD.out⟩, fun hb => .inl hb⟩
    iterate 2
      · exact only_drewN (only_setCell (p := ⟨g, 1, none⟩) (only_drewN (grown_refl w (some g)) _) (.inl rfl) _) _
      · exact ((HR.out.drewN _).set 1 _).drewN _
  · have HD := hide (show pOne (L.drop n) = none from by rw [List.drop_eq_nil_of_le (by omega)]; rfl)
    clear hr ho
    go_enter Try.func75, Try.ntmps75
    go_wp2
    go_quiet (fail)
    go_wp2
    go_ret
    have hm := fun W (hg : w.grownBy W (some g)) hr => RdS.make HO.out hfp lr hL (n := n) (w' := W) (bad := true) hn hg hr
    refine ⟨0, L.drop n, true, rfl, by omega, by omega, (hm _ ?_ ?_).1, (hm _ ?_ ?_).2, fun hb => (by cases hb), fun _ => .inr HD.out⟩
    iterate 2
      · exact only_setCell (p := ⟨g, 2, none⟩) (only_drewN (grown_refl w (some g)) _) (.inl rfl) _
      · exact (HR.out.drewN _).set 2 _
theorem wrapI (x : Int) (h1 : -9223372036854775808 ≤ x) (h2 : x ≤ 9223372036854775807) : IntKind.i64.wrap x = x := by
  rw [IntKind.wrap_i64]
  omega
/-- bytes that are read as a text -/
theorem conv_sub {W : World} {gb o c : Nat} {l : List UInt8} (hc : ∀ j (hj : j < l.length), W.cell? ⟨gb, o + j, none⟩ = some (.int .u8 (l[j].toNat : Int))) :
    (convert 22 9 (.slice (some ⟨gb, o, none⟩) l.length c)).run Try.prog W = .ok (.string (ba l)) W :=
  run_convert_bytes_back W 22 9 5 ⟨gb, o, none⟩ c l Try.underlying22 Try.underlying5 Try.underlying9 (fun j hj => by rw [Addr.add_lit]; exact hc j hj)
theorem conv_zero (W : World) (A : Option Addr) (c : Nat) : (convert 22 9 (.slice A 0 c)).run Try.prog W = .ok (.string .empty) W := by
  rw [run_convert_bytes_string W 22 9 5 A 0 c Try.underlying22 Try.underlying5 Try.underlying9]
  cases A with
  | none => simp [Conv.bytesToString]
  | some a =>
    have h := run_loadCells_list (P := Try.prog) W a [] (fun j v hj => by simp at hj)
    exact run_bytesToString W a 0 c [] h
/-- the cells of a part of what is read -/
theorem bytes_part {w W : World} {L : List UInt8} {A : Option Addr} {c : Nat} {fp : List Nat} {g : Nat} (ho : Ow w (.s 1 L.length (L.flatMap byteC)) (.slice A L.length c) fp) (hfp : Lt fp g) (hb : Below g w W) (n m : Nat) (h : n + m ≤ L.length) (hL : 0 < L.length) :
    ∃ gb off, A = some ⟨gb, off, none⟩ ∧ gb < g ∧ ((L.drop n).take m).length = m ∧ ∀ j (hj : j < ((L.drop n).take m).length), W.cell? ⟨gb, off + n + j, none⟩ = some (.int .u8 (((L.drop n).take m)[j].toNat : Int)) := by
  obtain ⟨gb, off, rfl, hgm, hcell, -⟩ := bytes_at ho hL
  refine ⟨gb, off, rfl, hfp gb hgm, by simp; omega, fun j hj => ?_⟩
  have hj' : n + j < L.length := by simp at hj; omega
  obtain ⟨gb', off', e, hgm', hcell', -⟩ := bytes_at ho hj'
  injection e with e
  injection e with e1 e2 e3
  subst e1 e2
  rw [Nat.add_assoc, (hb.cell (p := ⟨gb, off + (n + j), none⟩) (hfp gb hgm)).trans hcell']
  simp
set_option maxRecDepth 100000 in
set_option maxHeartbeats 1000000 in
theorem shortS_any {L l : List UInt8} {bad : Bool} {g : Nat} {w : World} (h : RdS w g L l bad) :
    Calls Try.prog 74 #[.pointer (some ⟨g, 0, none⟩)] w (StrOut RdS g L bad (pShort l) w) := by
  have HC := hide (oneS_any h)
  have hlw := h.lt
  clear h
  go_enter Try.func74, Try.ntmps74
  go_wp2_with fail
  refine HC.out.mono ?_
  rintro e w2 ⟨x, l1, bad1, rfl, hx0, hx1, h2, hg2, hok⟩
  obtain ⟨m, rfl⟩ : ∃ m : Nat, x = (m : Int) := ⟨x.toNat, by omega⟩
  obtain ⟨A, c, n, fp, hr, ho, hfp, hn, hL, rfl⟩ := h2
  have r0 := hr.cell 0
  have r1 := hr.cell 1
  have r2 := hr.cell 2
  have lr := hr.lt
  have f1 := hr.frozen 1
  have f2 := hr.frozen 2
  have HR := hide hr
  have HO := hide ho
  have hc := ho.nlen.2.1
  have HG2 := hide hg2
  have HOK := hide hok
  have HS : Hid (pShort l = match pOne l with | none => none | some (n, r) => if n.toNat ≤ r.length then some (ba (r.take n.toNat), r.drop n.toNat) else none) := hide (by cases l <;> rfl)
  clear hr ho hg2 hok HC
  by_cases hm : m ≤ L.length - n
  · have hm' : ¬ ((L.length : Int) - (n : Int) < (m : Int)) := by omega
    have HB : Hid (bad1 = false → pShort l = some (ba ((L.drop n).take m), L.drop (n + m))) := hide (fun hb => by
      rw [HS.out, (HOK.out.1 hb).2]
      simp only [Int.toNat_natCast, List.length_drop]
      rw [if_pos hm, List.drop_drop])
    have HN : Hid (bad1 = true → bad = true ∨ pShort l = none) := hide (fun hb => (HOK.out.2 hb).imp id (fun e => by rw [HS.out, e]))
    have hnm : n + m ≤ L.length := by omega
    clear HS hm
    by_cases hm0 : m = 0
    · have hcv : ∀ (W : World) (A : Option Addr) (c : Nat), (convert 22 9 (.slice A 0 c)).run Try.prog W = .ok (.string .empty) W := conv_zero
      subst hm0
      have HZ : Hid (bad1 = false → pShort l = some (.empty, L.drop n)) := hide (fun hb => by rw [HB.out hb]; rfl)
      clear HB
      have hw2 : IntKind.i64.wrap (n : Int) = (n : Int) := wrapI _ (by omega) (by omega)
      have hs0 : (0 : Int) ≤ (n : Int) := by omega
      have hs2 : (n : Int) ≤ (c : Int) := by omega
      have hm2 : (0 : Int) ≤ (L.length : Int) - (n : Int) := by omega
      rcases A with _ | ⟨ab, ao, az⟩
      all_goals
        go_wp2
        go_quiet (fail)
        go_wp2
        go_quiet (fail)
        go_wp2
      all_goals
        go_ret
        have hm := fun W (hg : w2.grownBy W (some g)) hr => RdS.make HO.out hfp lr hL (n := n) (w' := W) (bad := bad1) hn hg hr
        refine ⟨.empty, L.drop n, bad1, rfl, by decide, (hm _ ?_ ?_).1, only_trans HG2.out (hm _ ?_ ?_).2, fun hb => ⟨(HOK.out.1 hb).1, HZ.out hb⟩, fun hb => HN.out hb⟩
        iterate 2
          · exact only_drewN (only_setCell (p := ⟨g, 1, none⟩) (only_drewN (grown_refl w2 (some g)) _) (.inl rfl) _) _
          · exact ((HR.out.drewN _).set 1 _).drewN _
    · have hL0 : 0 < L.length := by omega
      obtain ⟨gb, off, rfl, hgb, hml, -⟩ := bytes_part HO.out hfp (Below.refl _ _) n m hnm hL0
      have hcn : ¬ (c = n) := by omega
      have hw1 : IntKind.i64.wrap ((n : Int) + (m : Int) - (m : Int)) = (n : Int) := by rw [wrapI _ (by omega) (by omega)]; omega
      have hw2 : IntKind.i64.wrap (n : Int) = (n : Int) := wrapI _ (by omega) (by omega)
      have hs0 : (0 : Int) ≤ (n : Int) := by omega
      have hs1 : (n : Int) ≤ (n : Int) + (m : Int) := by omega
      have hs2 : (n : Int) + (m : Int) ≤ (c : Int) := by omega
      have hcv : ∀ (k k' : Nat), (convert 22 9 (.slice (some ⟨gb, off + n, none⟩) m (c - n))).run Try.prog (((w2.drewN k).setCell ⟨g, 1, none⟩ (.int .i64 ((n : Int) + (m : Int)))).drewN k') = .ok (.string (ba ((L.drop n).take m))) (((w2.drewN k).setCell ⟨g, 1, none⟩ (.int .i64 ((n : Int) + (m : Int)))).drewN k') := fun k k' => by
        obtain ⟨gb', off', e, hgb', hml', hc'⟩ := bytes_part HO.out hfp (below_of_grown (only_drewN (only_setCell (p := ⟨g, 1, none⟩) (only_drewN (grown_refl w2 (some g)) k) (.inl rfl) (.int .i64 ((n : Int) + (m : Int)))) k') (Nat.le_refl g) (Nat.le_of_lt lr)) n m hnm hL0
        injection e with e
        injection e with e1 e2 e3
        subst e1 e2
        have h := conv_sub (c := c - n) hc'
        rw [hml'] at h
        exact h
      go_wp2
      go_quiet (fail)
      go_wp2
      go_quiet (fail)
      go_wp2
      go_ret
      have hm := fun W (hg : w2.grownBy W (some g)) hr => RdS.make HO.out hfp lr hL (n := n + m) (w' := W) (bad := bad1) hnm hg hr
      refine ⟨ba ((L.drop n).take m), L.drop (n + m), bad1, rfl, by rw [ba_size, hml]; omega, (hm _ ?_ ?_).1, only_trans HG2.out (hm _ ?_ ?_).2, fun hb => ⟨(HOK.out.1 hb).1, HB.out hb⟩, fun hb => HN.out hb⟩
      iterate 2
        · exact only_drewN (only_setCell (p := ⟨g, 1, none⟩) (only_drewN (grown_refl w2 (some g)) _) (.inl rfl) _) _
        · exact ((HR.out.drewN _).set 1 _).drewN _
  · have hm' : (L.length : Int) - (n : Int) < (m : Int) := by omega
    have HN : Hid (bad = true ∨ pShort l = none) := hide (by
      rcases hb : bad1 with _ | _
      · right
        rw [HS.out, (HOK.out.1 hb).2]
        simp only [Int.toNat_natCast, List.length_drop]
        rw [if_neg hm]
      · exact (HOK.out.2 hb).imp id (fun e => by rw [HS.out, e]))
    clear HS HOK
    go_wp2
    go_quiet (fail)
    go_wp2
    go_ret
    have hm := fun W (hg : w2.grownBy W (some g)) hr => RdS.make HO.out hfp lr hL (n := n) (w' := W) (bad := true) hn hg hr
    refine ⟨.empty, L.drop n, true, rfl, by decide, (hm _ ?_ ?_).1, only_trans HG2.out (hm _ ?_ ?_).2, fun hb => (by cases hb), fun _ => HN.out⟩
    iterate 2
      · exact only_setCell (p := ⟨g, 2, none⟩) (only_drewN (grown_refl w2 (some g)) _) (.inl rfl) _
      · exact (HR.out.drewN _).set 2 _
theorem pSev_one (strict : Bool) (k p n : Nat) (l : List UInt8) : pSev strict (k + 1) p n l = match pOne l with | none => none | some (x, r) => if x < 128 then some (n + x.toNat % 128 * p, r) else pSev strict k (p * 128) (n + x.toNat % 128 * p) r := by
  cases l with
  | nil => rfl
  | cons b r =>
    have h := b.toNat_lt
    simp only [pSev, pOne, Int.toNat_natCast]
    by_cases h1 : b.toNat < 128
    · rw [if_pos h1, if_pos (by omega)]
    · rw [if_neg h1, if_neg (by omega)]
theorem pNum_one (strict : Bool) (l : List UInt8) : pNum strict l = match pOne l with | none => none | some (x, r) => (pSev strict 5 1 0 r).map (fun p => (if x = 1 then -(p.1 : Int) else (p.1 : Int), p.2)) := by
  cases l with
  | nil => rfl
  | cons b r =>
    simp only [pNum, pOne]
    congr 1
    funext p
    unfold signed
    by_cases h1 : b.toNat = 1
    · rw [if_pos h1, if_pos (by omega)]
    · rw [if_neg h1, if_neg (by omega)]
/-- a size by sevens, as far as it is read -/
def SevAt (strict bad0 : Bool) (l0 : List UInt8) (b : Bool) (k p n : Nat) (l : List UInt8) : Prop := (b = false → bad0 = false ∧ pSev strict 5 1 0 l0 = pSev strict k p n l) ∧ (b = true → bad0 = true ∨ pSev strict 5 1 0 l0 = none)
theorem SevAt.next {strict bad0 b b' : Bool} {l0 l l' : List UInt8} {k p n y : Nat} (h : SevAt strict bad0 l0 b (k + 1) p n l) (ho : Okr b b' (pOne l) (y : Int) l') (hy : ¬ y < 128) : SevAt strict bad0 l0 b' k (p * 128) (n + y % 128 * p) l' := by
  refine ⟨fun hb => ?_, fun hb => ?_⟩
  · obtain ⟨e1, e2⟩ := ho.1 hb
    obtain ⟨e3, e4⟩ := h.1 e1
    refine ⟨e3, ?_⟩
    rw [e4, pSev_one, e2]
    simp only [Int.toNat_natCast]
    rw [if_neg (by omega)]
  · rcases ho.2 hb with e1 | e1
    · exact h.2 e1
    · rcases hb' : b with _ | _
      · obtain ⟨e3, e4⟩ := h.1 hb'
        right
        rw [e4, pSev_one, e1]
      · exact h.2 hb'
theorem SevAt.last {strict bad0 b b' : Bool} {l0 l l' : List UInt8} {k p n y : Nat} (h : SevAt strict bad0 l0 b (k + 1) p n l) (ho : Okr b b' (pOne l) (y : Int) l') (hy : y < 128) : Okr bad0 b' (pSev strict 5 1 0 l0) (n + y % 128 * p) l' := by
  refine ⟨fun hb => ?_, fun hb => ?_⟩
  · obtain ⟨e1, e2⟩ := ho.1 hb
    obtain ⟨e3, e4⟩ := h.1 e1
    refine ⟨e3, ?_⟩
    rw [e4, pSev_one, e2]
    simp only [Int.toNat_natCast]
    rw [if_pos (by omega)]
  · rcases ho.2 hb with e1 | e1
    · exact h.2 e1
    · rcases hb' : b with _ | _
      · obtain ⟨e3, e4⟩ := h.1 hb'
        right
        rw [e4, pSev_one, e1]
      · exact h.2 hb'
theorem sev_num {strict bad bad1 b : Bool} {l l1 l' : List UInt8} {x : Int} {n : Nat} (h1 : Okr bad bad1 (pOne l) x l1) (h2 : Okr bad1 b (pSev strict 5 1 0 l1) n l') : Okr bad b (pNum strict l) (if x = 1 then -(n : Int) else (n : Int)) l' := by
  refine ⟨fun hb => ?_, fun hb => ?_⟩
  · obtain ⟨e1, e2⟩ := h2.1 hb
    obtain ⟨e3, e4⟩ := h1.1 e1
    refine ⟨e3, ?_⟩
    rw [pNum_one, e4]
    simp only [e2, Option.map_some]
  · rcases h2.2 hb with e1 | e1
    · exact (h1.2 e1).imp id (fun e => by rw [pNum_one, e])
    · rcases hb' : bad1 with _ | _
      · obtain ⟨e3, e4⟩ := h1.1 hb'
        right
        rw [pNum_one, e4]
        simp only [e1, Option.map_none]
      · exact (h1.2 hb').imp id (fun e => by rw [pNum_one, e])
theorem only_trans' {a b c : World} {r : Option Nat} (h : a.grownBy b r) (k : b.grownBy c r) : a.grownBy c r := ⟨k.os.trans h.os, k.tape.trans h.tape, k.output.trans h.output, Nat.le_trans h.size k.size, fun i hi hr => (k.block i (Nat.lt_of_lt_of_le hi h.size) hr).trans (h.block i hi hr)⟩
set_option maxRecDepth 100000 in
set_option maxHeartbeats 1000000 in
theorem numS_any {L l : List UInt8} {bad : Bool} {g : Nat} {w : World} (h : RdS w g L l bad) :
    Calls Try.prog 161 #[.pointer (some ⟨g, 0, none⟩)] w (NumOut RdS g L bad (pNum false l) w) := by
  have HC := hide (oneS_any h)
  clear h
  go_enter Try.func161, Try.ntmps161
  go_wp2_with fail
  refine HC.out.mono ?_
  rintro e w2 ⟨x, l1, bad1, rfl, hx0, hx1, h2, hg2, hok⟩
  have H2 := hide h2
  have HG2 := hide hg2
  have HOK := hide hok
  clear h2 hg2 hok HC
  go_wp2
  go_loopw [4, 5, 6] (fun nv pv kv wr => (∃ (k n p : Nat) (l' : List UInt8) (b : Bool), k ≤ 5 ∧ n < p ∧ p = 128 ^ k ∧ nv = .int .i64 (n : Int) ∧ pv = .int .i64 (p : Int) ∧ kv = .int .i64 (k : Int) ∧ RdS wr g L l' b ∧ SevAt false bad1 l1 b (5 - k) p n l') ∧ w2.grownBy wr (some g)) (fun _ _ kv _ => 5 - (intOf kv).toNat)
  case atStart => exact ⟨⟨0, 0, 1, l1, bad1, by omega, by omega, rfl, rfl, rfl, rfl, H2.out, fun hb => ⟨hb, rfl⟩, fun hb => .inl hb⟩, grown_refl _ _⟩
  case round =>
    obtain ⟨⟨k, n, p, l', b, hk, hn, hp, rfl, rfl, rfl, hr, hs⟩, hg⟩ := hrel
    have HR := hide hr
    have HS := hide hs
    have HG := hide hg
    have HP := hide hp
    clear hr hs hg hp
    by_cases hlt : k < 5
    · have HC := hide (oneS_any HR.out)
      have hpb : p ≤ 268435456 := by rw [HP.out]; exact Nat.le_trans (Nat.pow_le_pow_right (by decide) (show k ≤ 4 by omega)) (by decide)
      obtain ⟨r, hr⟩ : ∃ r, 5 - k = r + 1 := ⟨4 - k, by omega⟩
      have HRR := hide hr
      go_wp2_with fail
      refine HC.out.mono ?_
      rintro e w3 ⟨y, l3, b3, rfl, hy0, hy1, h3, hg3, hok3⟩
      obtain ⟨y, rfl⟩ : ∃ y' : Nat, y = (y' : Int) := ⟨y.toNat, by omega⟩
      have H3 := hide h3
      have HG3 := hide hg3
      have HOK3 := hide hok3
      clear h3 hg3 hok3 HC hr
      obtain ⟨q, hq⟩ : ∃ q : Nat, y % 128 * p = q := ⟨_, rfl⟩
      have hqi : ((y : Int) % 128 * (p : Int)) = (q : Int) := by rw [← hq]; simp
      have hqb : q ≤ 127 * p := by rw [← hq]; exact Nat.mul_le_mul_right p (by omega)
      have HQ := hide hq
      clear hq
      by_cases hy : y < 128
      · have HL := hide (show Okr bad1 b3 (pSev false 5 1 0 l1) (n + q) l3 from by
          have h := HS.out
          rw [HRR.out] at h
          have h' := h.last HOK3.out hy
          rw [HQ.out] at h'
          exact h')
        go_wp2
        all_goals
          go_ret
          have hz := sev_num HOK.out HL.out
        · have hx : x = 1 := by simpa using ‹(x == 1) = true›
          rw [if_pos hx] at hz
          exact ⟨-((n + q : Nat) : Int), l3, b3, by simp [Array.getD], by omega, by omega, H3.out, only_trans (only_trans HG2.out HG.out) HG3.out, by simpa using hz⟩
        · have hx : ¬ x = 1 := by simpa using ‹(x == 1) = false›
          rw [if_neg hx] at hz
          exact ⟨((n + q : Nat) : Int), l3, b3, by simp [Array.getD], by omega, by omega, H3.out, only_trans (only_trans HG2.out HG.out) HG3.out, by simpa using hz⟩
      · have HL := hide (show SevAt false bad1 l1 b3 (5 - (k + 1)) (p * 128) (n + q) l3 from by
          have h := HS.out
          rw [HRR.out] at h
          have h' := h.next HOK3.out hy
          rw [HQ.out] at h'
          have e : 5 - (k + 1) = r := by have := HRR.out; omega
          rw [e]
          exact h')
        go_wp2
        go_roundw
        case rel => exact ⟨⟨k + 1, n + q, p * 128, l3, b3, by omega, by omega, by rw [HP.out, Nat.pow_succ], by go_num, by go_num, by go_num, H3.out, HL.out⟩, only_trans HG.out HG3.out⟩
        case measure => simp [intOf]; omega
    · obtain rfl : k = 5 := by omega
      have HL := hide (show Okr bad1 b (pSev false 5 1 0 l1) n l' from ⟨fun hb => ⟨(HS.out.1 hb).1, (HS.out.1 hb).2⟩, fun hb => HS.out.2 hb⟩)
      have hpb : p = 34359738368 := HP.out
      go_wp2
      all_goals
        go_ret
        have hz := sev_num HOK.out HL.out
      · have hx : x = 1 := by simpa using ‹(x == 1) = true›
        rw [if_pos hx] at hz
        exact ⟨-(n : Int), l', b, by simp [Array.getD], by omega, by omega, HR.out, only_trans HG2.out HG.out, by simpa using hz⟩
      · have hx : ¬ x = 1 := by simpa using ‹(x == 1) = false›
        rw [if_neg hx] at hz
        exact ⟨(n : Int), l', b, by simp [Array.getD], by omega, by omega, HR.out, only_trans HG2.out HG.out, by simpa using hz⟩
end Go.Proofs.Ytbjblchhenmgjaa
