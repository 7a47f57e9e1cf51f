/-
  Reading trees from texts: the program's kids.
-/
import Derived.Deep.RegionWith
import Derived.Test.YtnaecdoeldoipaaGreatDoorKTrM
set_option linter.unusedVariables false
set_option linter.unusedSimpArgs false
namespace Go.Proofs.YtnaecdoeldoipaaGreatDoor
open Go.ChangeShapes Go.WideShapes Go.ChangeAt Go.RowKit

/-- what a part's contract says -/
def PartAll4 (w : World) (g lv : Nat) : Prop := ∀ (wr : World) (B1 : Option Addr) (n1 d1 : Nat) (ns : List ByteArray) (us1 : List Value) (B2 : Option Addr) (n2 d2 : Nat) (ks : List Tree) (us2 : List Value) (fi2 : List Nat) (l : List UInt8), KT 4 w wr g lv (.slice B1 n1 d1) ns us1 (.slice B2 n2 d2) ks us2 fi2 l false → ns.length ≤ 100000 → ks.length ≤ 100000 →
  Calls Tryz.prog 100 #[.pointer (some ⟨w.heap.size + 3, 0, none⟩), .pointer (some ⟨w.heap.size, 0, none⟩), .pointer (some ⟨w.heap.size + 1, 0, none⟩)] wr (PartOutT 4 w g lv ns ks l)
/-- what a part's contract says -/
def PartAll5 (w : World) (g lv : Nat) : Prop := ∀ (wr : World) (B1 : Option Addr) (n1 d1 : Nat) (ns : List ByteArray) (us1 : List Value) (B2 : Option Addr) (n2 d2 : Nat) (ks : List Tree) (us2 : List Value) (fi2 : List Nat) (l : List UInt8), KT 5 w wr g lv (.slice B1 n1 d1) ns us1 (.slice B2 n2 d2) ks us2 fi2 l false → ns.length ≤ 100000 → ks.length ≤ 100000 →
  Calls Tryz.prog 101 #[.pointer (some ⟨w.heap.size + 3, 0, none⟩), .pointer (some ⟨w.heap.size, 0, none⟩), .pointer (some ⟨w.heap.size + 1, 0, none⟩)] wr (PartOutT 5 w g lv ns ks l)
def rjMeas (w : World) (g : Nat) : Nat := match w.cell? ⟨g, 1, none⟩, w.cell? ⟨g, 0, none⟩ with
  | some (.bool false), some (.string s) => 1 + s.size
  | _, _ => 0
theorem RdJ.meas {w : World} {g : Nat} {l : List UInt8} {fail : Bool} (h : RdJ w g l fail) : rjMeas w g = if fail = true then 0 else 1 + l.length := by
  obtain ⟨s, hr, h1, rfl⟩ := h
  unfold rjMeas
  rw [hr.cell 1, hr.cell 0]
  simp only [List.getElem?_cons_succ, List.getElem?_cons_zero]
  rw [bl_len]
  cases fail
  · simp
  · simp
def KidsOutT (S : Int) (w : World) (g lv : Nat) (l : List UInt8) (e : Ending) (w' : World) : Prop :=
  ∃ (ns : List ByteArray) (ks : List Tree) (l' : List UInt8) (b' : Bool) (B1 : Option Addr) (n1 d1 : Nat) (us1 : List Value) (B2 : Option Addr) (n2 d2 : Nat) (us2 : List Value) (fi2 : List Nat), e = .returned (.tuple #[]) ∧
    KT S w w' g lv (.slice B1 n1 d1) ns us1 (.slice B2 n2 d2) ks us2 fi2 l' b' ∧ Paid lv (opOf S :: l) (Tree.mk S 0 .empty ns ks).bulk l' b' ∧ TakesT lv (opOf S :: l) false (.mk S 0 .empty ns ks) l' b'
theorem bulk_partsT (s : Int) (ns : List ByteArray) (ks : List Tree) : (Tree.mk s 0 .empty ns ks).bulk = bulkStrs ns + ks.length + Tree.bulkS ks := by
  rw [Tree.bulk_mk, show (ByteArray.empty).size = 0 from rfl, Nat.zero_add]
set_option maxRecDepth 100000 in
set_option maxHeartbeats 4000000 in
theorem kids4_any {lv : Nat} (hl6 : lv ≤ 6) {w wr : World} {g : Nat} (hgw : g < w.heap.size) (hp : PartAll4 w g lv) {l : List UInt8} (h : KT 4 w wr g lv (.slice none 0 0) [] [] (.slice none 0 0) [] [] [] l false) :
    Calls Tryz.prog 99 #[.pointer (some ⟨g, 0, none⟩), .string ⟨#[93]⟩, .func (.func 100) #[] #[.pointer (some ⟨w.heap.size + 3, 0, none⟩), .pointer (some ⟨w.heap.size, 0, none⟩), .pointer (some ⟨w.heap.size + 1, 0, none⟩)]] wr (KidsOutT 4 w g lv l) := by
  have H := hide h
  have HP := hide hp
  have HSK := hide (skip_any h.rd ⟨#[93]⟩)
  have hlb := h.rd.len
  clear h hp
  go_enter Tryz.func99, Tryz.ntmps99
  go_wp2_with fail
  refine HSK.out.mono ?_
  rintro e w3 ⟨ok, l3, rfl, h3, he3, hg3⟩
  have HE3 := hide (show Eaten [93] l ok l3 from he3)
  have H3 := hide (H.out.read hgw hg3 h3)
  clear h3 he3 hg3 H HSK
  rcases ok with _ | _
  rotate_left
  · go_wp2
    go_end0
    refine ⟨[], [], l3, false, none, 0, 0, [], none, 0, 0, [], [], rfl, H3.out, ?_, ?_⟩
    · have := HE3.out.lt
      exact paid_done (PaidF.start lv l false) HE3.out.le (fun _ => by simp at this; omega)
    · rcases HE3.out with ⟨_, e⟩ | ⟨e, _⟩
      · exact TakesT.shut (by decide) (PartsAt.start 4 lv l) (fun _ => e)
      · cases e
  have HH := hide (HeadT.start (s := 4) (lv := lv) HE3.out)
  have hl3 : l3.length ≤ l.length := HE3.out.le
  have HPF := hide ((PaidF.start lv l false).less (b' := false) hl3 (fun h => h))
  go_wp2
  go_loopw [] (fun wz => ∃ (ns : List ByteArray) (ks : List Tree) (lx : List UInt8) (bx : Bool) (B1 : Option Addr) (m1 d1 : Nat) (us1 : List Value) (B2 : Option Addr) (m2 d2 : Nat) (us2 : List Value) (fi2 : List Nat), KT 4 w wz g lv (.slice B1 m1 d1) ns us1 (.slice B2 m2 d2) ks us2 fi2 lx bx ∧ LenT 4 ns ks ∧ PaidF lv l (bulkStrs ns + ks.length + Tree.bulkS ks) lx bx ∧ HeadT 4 lv l bx ns ks lx) (fun wz => rjMeas wz g)
  case atStart => exact ⟨[], [], l3, false, none, 0, 0, [], none, 0, 0, [], [], H3.out, LenT.nil, HPF.out, HH.out⟩
  case round =>
    obtain ⟨wz, rfl⟩ : ∃ W, W = wr := ⟨_, rfl⟩
    obtain ⟨ns, ks, lx, bx, B1, m1, d1, us1, B2, m2, d2, us2, fi2, hK, hln, hP, hH⟩ := hrel
    have HK := hide hK
    have HPF := hide hP
    have HH := hide hH
    have HLN := hide hln
    have HM := hide hK.rd.meas
    obtain ⟨hb, hbf⟩ := hK.rd.cells
    have lg := hK.rd.lt
    clear hK hP hH hln H3
    rcases bx with _ | _
    rotate_left
    · go_wp2
      go_end0
      exact ⟨ns, ks, lx, true, B1, m1, d1, us1, B2, m2, d2, us2, fi2, rfl, HK.out, by rw [bulk_partsT]; exact paid_done HPF.out (Nat.le_refl _) (fun h => by cases h), TakesT.shut (by decide) (HH.out.dead (l2 := lx)) (fun h => by cases h)⟩
    have hnb : ns.length ≤ 100000 := by have h := HPF.out.2.2 rfl; unfold bulkStrs at h; omega
    have hkb : ks.length ≤ 100000 := by have h := HPF.out.2.2 rfl; omega
    have HPA := hide (HP.out _ _ _ _ _ _ _ _ _ _ _ _ _ HK.out hnb hkb)
    clear hnb hkb
    go_wp2_with fail
    refine HPA.out.mono ?_
    rintro e w4 ⟨nx, k, l2, l4, b2, b4, C1, p1, q1, us1', C2, p2, q2, us2', fi2', rfl, hK4, hnm, hpd, htk, hbb⟩
    have HK4 := hide hK4
    have HF4 := hide (HH.out.part hnm htk)
    have HP4 := hide (show PaidF lv l (bulkStrs (ns ++ nx) + (ks ++ [k]).length + Tree.bulkS (ks ++ [k])) l4 b4 from by
      have e : bulkStrs (ns ++ nx) + (ks ++ [k]).length + Tree.bulkS (ks ++ [k]) = bulkStrs ns + ks.length + Tree.bulkS ks + bulkStrs nx + 1 + k.bulk := by
        rw [bulkStrs_app, tbulkS_snoc, List.length_append, List.length_singleton]
        omega
      rw [e]
      exact HPF.out.part hnm hpd hbb hl6)
    have HLE := hide (show b4 = false → l4.length < lx.length from fun e => by
      have a1 := (hpd.2.2 e).1
      have a2 := hnm.less
      omega)
    have HLN2 := hide (show LenT 4 (ns ++ nx) (ks ++ [k]) from hnm.fits HLN.out)
    have HSK := hide (skip_any hK4.rd ⟨#[93]⟩)
    clear hK4 hnm hpd htk hbb HPA HK HPF HH hb hbf lg HLN
    go_wp2_with fail
    refine HSK.out.mono ?_
    rintro e w5 ⟨ok, l5, rfl, h5, he5, hg5⟩
    have HE5 := hide (show Eaten [93] l4 ok l5 from he5)
    have HK5 := hide (HK4.out.read hgw hg5 h5)
    clear h5 he5 hg5 HK4 HSK
    rcases ok with _ | _
    rotate_left
    · have hlt := HE5.out.lt
      go_wp2
      go_end0
      refine ⟨ns ++ nx, ks ++ [k], l5, b4, C1, p1, q1, us1', C2, p2, q2, us2', fi2', rfl, HK5.out, ?_, ?_⟩
      · rw [bulk_partsT]
        exact paid_done HP4.out (by omega) (fun _ => by simp at hlt; omega)
      · rcases HE5.out with ⟨_, e⟩ | ⟨e, _⟩
        · exact TakesT.shut (by decide) HF4.out (fun _ => e)
        · cases e
    obtain ⟨rfl, hno⟩ := HE5.out.no
    have HNO := hide (show ∀ r, l5 ≠ 93 :: r from hno)
    obtain ⟨hb, hbf⟩ := HK5.out.rd.cells
    have lg := HK5.out.rd.lt
    clear hno HE5
    rcases b4 with _ | _
    rotate_left
    · go_wp2
      refine ⟨⟨ns ++ nx, ks ++ [k], l5, true, C1, p1, q1, us1', C2, p2, q2, us2', fi2', HK5.out.read hgw (grownBy_setCell _ ⟨g, 1, none⟩ _) (HK5.out.rd.setFail true), HLN2.out, HP4.out, HF4.out.dead (l2 := l5)⟩, ?_⟩
      rw [(HK5.out.rd.setFail true).meas, HM.out, if_pos rfl, if_neg (by decide)]
      omega
    have HLE4 := hide (HLE.out rfl)
    have HSK := hide (skip_any HK5.out.rd ⟨#[44]⟩)
    go_wp2_with fail
    refine HSK.out.mono ?_
    rintro e w6 ⟨ok, l6, rfl, h6, he6, hg6⟩
    have HC6 := hide (PartsAt.comma HF4.out rfl HNO.out (show Eaten [44] l5 ok l6 from he6))
    have HL6 := hide (show l6.length ≤ l5.length from he6.le)
    have HK6 := hide (HK5.out.read hgw hg6 h6)
    obtain ⟨hb, hbf⟩ := HK6.out.rd.cells
    have lg := HK6.out.rd.lt
    clear h6 he6 hg6 HK5 HSK
    go_wp2
    refine ⟨⟨ns ++ nx, ks ++ [k], l6, !ok, C1, p1, q1, us1', C2, p2, q2, us2', fi2', HK6.out.read hgw (grownBy_setCell _ ⟨g, 1, none⟩ _) (HK6.out.rd.setFail _), HLN2.out, HP4.out.less HL6.out (fun _ => rfl), HC6.out⟩, ?_⟩
    have e2 : (if false = true then 0 else 1 + lx.length) = 1 + lx.length := if_neg (by decide)
    rw [(HK6.out.rd.setFail (!ok)).meas, HM.out, e2]
    have h1 := HLE4.out
    have h2 := HL6.out
    split <;> omega
set_option maxRecDepth 100000 in
set_option maxHeartbeats 4000000 in
theorem kids5_any {lv : Nat} (hl6 : lv ≤ 6) {w wr : World} {g : Nat} (hgw : g < w.heap.size) (hp : PartAll5 w g lv) {l : List UInt8} (h : KT 5 w wr g lv (.slice none 0 0) [] [] (.slice none 0 0) [] [] [] l false) :
    Calls Tryz.prog 99 #[.pointer (some ⟨g, 0, none⟩), .string ⟨#[125]⟩, .func (.func 101) #[] #[.pointer (some ⟨w.heap.size + 3, 0, none⟩), .pointer (some ⟨w.heap.size, 0, none⟩), .pointer (some ⟨w.heap.size + 1, 0, none⟩)]] wr (KidsOutT 5 w g lv l) := by
  have H := hide h
  have HP := hide hp
  have HSK := hide (skip_any h.rd ⟨#[125]⟩)
  have hlb := h.rd.len
  clear h hp
  go_enter Tryz.func99, Tryz.ntmps99
  go_wp2_with fail
  refine HSK.out.mono ?_
  rintro e w3 ⟨ok, l3, rfl, h3, he3, hg3⟩
  have HE3 := hide (show Eaten [125] l ok l3 from he3)
  have H3 := hide (H.out.read hgw hg3 h3)
  clear h3 he3 hg3 H HSK
  rcases ok with _ | _
  rotate_left
  · go_wp2
    go_end0
    refine ⟨[], [], l3, false, none, 0, 0, [], none, 0, 0, [], [], rfl, H3.out, ?_, ?_⟩
    · have := HE3.out.lt
      exact paid_done (PaidF.start lv l false) HE3.out.le (fun _ => by simp at this; omega)
    · rcases HE3.out with ⟨_, e⟩ | ⟨e, _⟩
      · exact TakesT.shut (by decide) (PartsAt.start 5 lv l) (fun _ => e)
      · cases e
  have HH := hide (HeadT.start (s := 5) (lv := lv) HE3.out)
  have hl3 : l3.length ≤ l.length := HE3.out.le
  have HPF := hide ((PaidF.start lv l false).less (b' := false) hl3 (fun h => h))
  go_wp2
  go_loopw [] (fun wz => ∃ (ns : List ByteArray) (ks : List Tree) (lx : List UInt8) (bx : Bool) (B1 : Option Addr) (m1 d1 : Nat) (us1 : List Value) (B2 : Option Addr) (m2 d2 : Nat) (us2 : List Value) (fi2 : List Nat), KT 5 w wz g lv (.slice B1 m1 d1) ns us1 (.slice B2 m2 d2) ks us2 fi2 lx bx ∧ LenT 5 ns ks ∧ PaidF lv l (bulkStrs ns + ks.length + Tree.bulkS ks) lx bx ∧ HeadT 5 lv l bx ns ks lx) (fun wz => rjMeas wz g)
  case atStart => exact ⟨[], [], l3, false, none, 0, 0, [], none, 0, 0, [], [], H3.out, LenT.nil, HPF.out, HH.out⟩
  case round =>
    obtain ⟨wz, rfl⟩ : ∃ W, W = wr := ⟨_, rfl⟩
    obtain ⟨ns, ks, lx, bx, B1, m1, d1, us1, B2, m2, d2, us2, fi2, hK, hln, hP, hH⟩ := hrel
    have HK := hide hK
    have HPF := hide hP
    have HH := hide hH
    have HLN := hide hln
    have HM := hide hK.rd.meas
    obtain ⟨hb, hbf⟩ := hK.rd.cells
    have lg := hK.rd.lt
    clear hK hP hH hln H3
    rcases bx with _ | _
    rotate_left
    · go_wp2
      go_end0
      exact ⟨ns, ks, lx, true, B1, m1, d1, us1, B2, m2, d2, us2, fi2, rfl, HK.out, by rw [bulk_partsT]; exact paid_done HPF.out (Nat.le_refl _) (fun h => by cases h), TakesT.shut (by decide) (HH.out.dead (l2 := lx)) (fun h => by cases h)⟩
    have hnb : ns.length ≤ 100000 := by have h := HPF.out.2.2 rfl; unfold bulkStrs at h; omega
    have hkb : ks.length ≤ 100000 := by have h := HPF.out.2.2 rfl; omega
    have HPA := hide (HP.out _ _ _ _ _ _ _ _ _ _ _ _ _ HK.out hnb hkb)
    clear hnb hkb
    go_wp2_with fail
    refine HPA.out.mono ?_
    rintro e w4 ⟨nx, k, l2, l4, b2, b4, C1, p1, q1, us1', C2, p2, q2, us2', fi2', rfl, hK4, hnm, hpd, htk, hbb⟩
    have HK4 := hide hK4
    have HF4 := hide (HH.out.part hnm htk)
    have HP4 := hide (show PaidF lv l (bulkStrs (ns ++ nx) + (ks ++ [k]).length + Tree.bulkS (ks ++ [k])) l4 b4 from by
      have e : bulkStrs (ns ++ nx) + (ks ++ [k]).length + Tree.bulkS (ks ++ [k]) = bulkStrs ns + ks.length + Tree.bulkS ks + bulkStrs nx + 1 + k.bulk := by
        rw [bulkStrs_app, tbulkS_snoc, List.length_append, List.length_singleton]
        omega
      rw [e]
      exact HPF.out.part hnm hpd hbb hl6)
    have HLE := hide (show b4 = false → l4.length < lx.length from fun e => by
      have a1 := (hpd.2.2 e).1
      have a2 := hnm.less
      omega)
    have HLN2 := hide (show LenT 5 (ns ++ nx) (ks ++ [k]) from hnm.fits HLN.out)
    have HSK := hide (skip_any hK4.rd ⟨#[125]⟩)
    clear hK4 hnm hpd htk hbb HPA HK HPF HH hb hbf lg HLN
    go_wp2_with fail
    refine HSK.out.mono ?_
    rintro e w5 ⟨ok, l5, rfl, h5, he5, hg5⟩
    have HE5 := hide (show Eaten [125] l4 ok l5 from he5)
    have HK5 := hide (HK4.out.read hgw hg5 h5)
    clear h5 he5 hg5 HK4 HSK
    rcases ok with _ | _
    rotate_left
    · have hlt := HE5.out.lt
      go_wp2
      go_end0
      refine ⟨ns ++ nx, ks ++ [k], l5, b4, C1, p1, q1, us1', C2, p2, q2, us2', fi2', rfl, HK5.out, ?_, ?_⟩
      · rw [bulk_partsT]
        exact paid_done HP4.out (by omega) (fun _ => by simp at hlt; omega)
      · rcases HE5.out with ⟨_, e⟩ | ⟨e, _⟩
        · exact TakesT.shut (by decide) HF4.out (fun _ => e)
        · cases e
    obtain ⟨rfl, hno⟩ := HE5.out.no
    have HNO := hide (show ∀ r, l5 ≠ 125 :: r from hno)
    obtain ⟨hb, hbf⟩ := HK5.out.rd.cells
    have lg := HK5.out.rd.lt
    clear hno HE5
    rcases b4 with _ | _
    rotate_left
    · go_wp2
      refine ⟨⟨ns ++ nx, ks ++ [k], l5, true, C1, p1, q1, us1', C2, p2, q2, us2', fi2', HK5.out.read hgw (grownBy_setCell _ ⟨g, 1, none⟩ _) (HK5.out.rd.setFail true), HLN2.out, HP4.out, HF4.out.dead (l2 := l5)⟩, ?_⟩
      rw [(HK5.out.rd.setFail true).meas, HM.out, if_pos rfl, if_neg (by decide)]
      omega
    have HLE4 := hide (HLE.out rfl)
    have HSK := hide (skip_any HK5.out.rd ⟨#[44]⟩)
    go_wp2_with fail
    refine HSK.out.mono ?_
    rintro e w6 ⟨ok, l6, rfl, h6, he6, hg6⟩
    have HC6 := hide (PartsAt.comma HF4.out rfl HNO.out (show Eaten [44] l5 ok l6 from he6))
    have HL6 := hide (show l6.length ≤ l5.length from he6.le)
    have HK6 := hide (HK5.out.read hgw hg6 h6)
    obtain ⟨hb, hbf⟩ := HK6.out.rd.cells
    have lg := HK6.out.rd.lt
    clear h6 he6 hg6 HK5 HSK
    go_wp2
    refine ⟨⟨ns ++ nx, ks ++ [k], l6, !ok, C1, p1, q1, us1', C2, p2, q2, us2', fi2', HK6.out.read hgw (grownBy_setCell _ ⟨g, 1, none⟩ _) (HK6.out.rd.setFail _), HLN2.out, HP4.out.less HL6.out (fun _ => rfl), HC6.out⟩, ?_⟩
    have e2 : (if false = true then 0 else 1 + lx.length) = 1 + lx.length := if_neg (by decide)
    rw [(HK6.out.rd.setFail (!ok)).meas, HM.out, e2]
    have h1 := HLE4.out
    have h2 := HL6.out
    split <;> omega
end Go.Proofs.YtnaecdoeldoipaaGreatDoor
