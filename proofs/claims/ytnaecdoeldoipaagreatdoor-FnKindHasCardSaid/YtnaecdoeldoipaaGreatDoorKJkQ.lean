/-
  Reading schemas from texts: the program's kids and kind. Reading schemas from texts: the program's kind. KindRead of the program; how much the marks count at what is read.
-/
import Derived.Deep.RegionWith
import Derived.Deep.DeepCutAuto
import Derived.Test.YtnaecdoeldoipaaGreatDoorKJkT
import Derived.Test.YtnaecdoeldoipaaGreatDoorKJkI
import Derived.Test.YtnaecdoeldoipaaGreatDoorKTrN
import Derived.Test.YtnaecdoeldoipaaGreatDoorKJkM
import Derived.Test.YtnaecdoeldoipaaGreatDoorKKindWrite
set_option linter.unusedVariables false
set_option linter.unusedSimpArgs false
namespace Go.Proofs.YtnaecdoeldoipaaGreatDoor
open Go.ChangeShapes Go.WideShapes Go.ChangeAt Go.RowKit

/-- what a part's contract says -/
def PartAll (w : World) (g lv : Nat) : Prop := ∀ (wr : World) (B1 : Option Addr) (n1 d1 : Nat) (ns : List ByteArray) (us1 : List Value) (B2 : Option Addr) (n2 d2 : Nat) (ks : List Kind) (us2 : List Value) (fi2 : List Nat) (l : List UInt8), KJ w wr g lv (.slice B1 n1 d1) ns us1 (.slice B2 n2 d2) ks us2 fi2 l false → ns.length ≤ 100000 → ks.length ≤ 100000 →
  Calls Tryz.prog 114 #[.pointer (some ⟨w.heap.size + 3, 0, none⟩), .pointer (some ⟨w.heap.size, 0, none⟩), .pointer (some ⟨w.heap.size + 1, 0, none⟩)] wr (PartOut w g lv ns ks l)
def KidsOut (w : World) (g lv : Nat) (l : List UInt8) (e : Ending) (w' : World) : Prop :=
  ∃ (ns : List ByteArray) (ks : List Kind) (l' : List UInt8) (b' : Bool) (B1 : Option Addr) (n1 d1 : Nat) (us1 : List Value) (B2 : Option Addr) (n2 d2 : Nat) (us2 : List Value) (fi2 : List Nat), e = .returned (.tuple #[]) ∧
    KJ w w' g lv (.slice B1 n1 d1) ns us1 (.slice B2 n2 d2) ks us2 fi2 l' b' ∧ Paid lv (123 :: l) (Kind.mk 5 ns ks).bulk l' b' ∧ TakesK lv (123 :: l) false (.mk 5 ns ks) l' b'
set_option maxRecDepth 100000 in
set_option maxHeartbeats 4000000 in
theorem kidsJ_any {lv : Nat} (hl6 : lv ≤ 6) {w wr : World} {g : Nat} (hgw : g < w.heap.size) (hp : PartAll w g lv) {l : List UInt8} (h : KJ w wr g lv (.slice none 0 0) [] [] (.slice none 0 0) [] [] [] l false) :
    Calls Tryz.prog 99 #[.pointer (some ⟨g, 0, none⟩), .string ⟨#[125]⟩, .func (.func 114) #[] #[.pointer (some ⟨w.heap.size + 3, 0, none⟩), .pointer (some ⟨w.heap.size, 0, none⟩), .pointer (some ⟨w.heap.size + 1, 0, none⟩)]] wr (KidsOut w g lv l) := by
  have H := hide h
  have HP := hide hp
  have HSK := hide (skip_any h.rd ⟨#[125]⟩)
  have hlb := h.rd.len
  clear h hp
  go_enter Tryz.func99, Tryz.ntmps99
  go_wp2_with fail
  refine HSK.out.mono ?_
  rintro e w3 ⟨ok, l3, rfl, h3, he3, hg3⟩
  have HE3 := hide (show Eaten [125] l ok l3 from he3)
  have H3 := hide (H.out.read hgw hg3 h3)
  clear h3 he3 hg3 H HSK
  rcases ok with _ | _
  rotate_left
  · go_wp2
    go_end0
    refine ⟨[], [], l3, false, none, 0, 0, [], none, 0, 0, [], [], rfl, H3.out, ?_, ?_⟩
    · have := HE3.out.lt
      exact paidK_done (PaidK.start lv l false) HE3.out.le (fun _ => by simp at this; omega)
    · rcases HE3.out with ⟨_, e⟩ | ⟨e, _⟩
      · exact FormAt.done (FormAt.start lv l) (fun _ => e)
      · cases e
  have HH := hide (HeadAt.start (lv := lv) HE3.out)
  have hl3 : l3.length ≤ l.length := HE3.out.le
  have HPF := hide ((PaidK.start lv l false).less (b' := false) hl3 (fun h => h))
  go_wp2
  go_loopw [] (fun wz => ∃ (ns : List ByteArray) (ks : List Kind) (lx : List UInt8) (bx : Bool) (B1 : Option Addr) (m1 d1 : Nat) (us1 : List Value) (B2 : Option Addr) (m2 d2 : Nat) (us2 : List Value) (fi2 : List Nat), KJ w wz g lv (.slice B1 m1 d1) ns us1 (.slice B2 m2 d2) ks us2 fi2 lx bx ∧ ns.length = ks.length ∧ PaidK lv l (bulkStrs ns + ks.length + Kind.bulkS ks) lx bx ∧ HeadAt lv l bx ns ks lx) (fun wz => rjMeas wz g)
  case atStart => exact ⟨[], [], l3, false, none, 0, 0, [], none, 0, 0, [], [], H3.out, rfl, HPF.out, HH.out⟩
  case round =>
    obtain ⟨wz, rfl⟩ : ∃ W, W = wr := ⟨_, rfl⟩
    obtain ⟨ns, ks, lx, bx, B1, m1, d1, us1, B2, m2, d2, us2, fi2, hK, hln, hP, hH⟩ := hrel
    have HK := hide hK
    have HPF := hide hP
    have HH := hide hH
    have HLN := hide hln
    have HM := hide hK.rd.meas
    obtain ⟨hb, hbf⟩ := hK.rd.cells
    have lg := hK.rd.lt
    clear hK hP hH hln H3
    rcases bx with _ | _
    rotate_left
    · go_wp2
      go_end0
      exact ⟨ns, ks, lx, true, B1, m1, d1, us1, B2, m2, d2, us2, fi2, rfl, HK.out, by rw [Kind.bulk_form]; exact paidK_done HPF.out (Nat.le_refl _) (fun h => by cases h), HH.out.dead⟩
    have hnb : ns.length ≤ 100000 := by have h := HPF.out.2.2 rfl; unfold bulkStrs at h; omega
    have HPA := hide (HP.out _ _ _ _ _ _ _ _ _ _ _ _ _ HK.out hnb (by rw [← HLN.out]; exact hnb))
    clear hnb
    go_wp2_with fail
    refine HPA.out.mono ?_
    rintro e w4 ⟨x, k, l2, l4, b2, b4, C1, p1, q1, us1', C2, p2, q2, us2', fi2', rfl, hK4, hxs, hnm, hpd, htk, hbb⟩
    have HK4 := hide hK4
    have HF4 := hide (HH.out.part hnm htk)
    have HP4 := hide (show PaidK lv l (bulkStrs (ns ++ [x]) + (ks ++ [k]).length + Kind.bulkS (ks ++ [k])) l4 b4 from by
      have e : bulkStrs (ns ++ [x]) + (ks ++ [k]).length + Kind.bulkS (ks ++ [k]) = bulkStrs ns + ks.length + Kind.bulkS ks + (1 + x.size) + 1 + k.bulk := by
        rw [bulkStrs_snoc, kbulkS_snoc, List.length_append, List.length_singleton]
        omega
      rw [e]
      exact HPF.out.part hnm hpd hbb hl6)
    have HLE := hide (show b4 = false → l4.length < lx.length from fun e => by
      have a1 := (hpd.2.2 e).1
      have a2 := hnm.1
      omega)
    have HLN2 := hide (show (ns ++ [x]).length = (ks ++ [k]).length from by rw [List.length_append, List.length_append, HLN.out]; rfl)
    have HSK := hide (skip_any hK4.rd ⟨#[125]⟩)
    clear hK4 hnm hpd htk hbb HPA HK HPF HH hb hbf lg HLN
    go_wp2_with fail
    refine HSK.out.mono ?_
    rintro e w5 ⟨ok, l5, rfl, h5, he5, hg5⟩
    have HE5 := hide (show Eaten [125] l4 ok l5 from he5)
    have HK5 := hide (HK4.out.read hgw hg5 h5)
    clear h5 he5 hg5 HK4 HSK
    rcases ok with _ | _
    rotate_left
    · have hlt := HE5.out.lt
      go_wp2
      go_end0
      refine ⟨ns ++ [x], ks ++ [k], l5, b4, C1, p1, q1, us1', C2, p2, q2, us2', fi2', rfl, HK5.out, ?_, ?_⟩
      · rw [Kind.bulk_form]
        exact paidK_done HP4.out (by omega) (fun _ => by simp at hlt; omega)
      · rcases HE5.out with ⟨_, e⟩ | ⟨e, _⟩
        · exact FormAt.done HF4.out (fun _ => e)
        · cases e
    obtain ⟨rfl, hno⟩ := HE5.out.no
    have HNO := hide (show ∀ r, l5 ≠ 125 :: r from hno)
    obtain ⟨hb, hbf⟩ := HK5.out.rd.cells
    have lg := HK5.out.rd.lt
    clear hno HE5
    rcases b4 with _ | _
    rotate_left
    · go_wp2
      refine ⟨⟨ns ++ [x], ks ++ [k], l5, true, C1, p1, q1, us1', C2, p2, q2, us2', fi2', HK5.out.read hgw (grownBy_setCell _ ⟨g, 1, none⟩ _) (HK5.out.rd.setFail true), HLN2.out, HP4.out, HF4.out.dead⟩, ?_⟩
      rw [(HK5.out.rd.setFail true).meas, HM.out, if_pos rfl, if_neg (by decide)]
      omega
    have HLE4 := hide (HLE.out rfl)
    have HSK := hide (skip_any HK5.out.rd ⟨#[44]⟩)
    go_wp2_with fail
    refine HSK.out.mono ?_
    rintro e w6 ⟨ok, l6, rfl, h6, he6, hg6⟩
    have HC6 := hide (FormAt.comma HF4.out rfl HNO.out (show Eaten [44] l5 ok l6 from he6))
    have HL6 := hide (show l6.length ≤ l5.length from he6.le)
    have HK6 := hide (HK5.out.read hgw hg6 h6)
    obtain ⟨hb, hbf⟩ := HK6.out.rd.cells
    have lg := HK6.out.rd.lt
    clear h6 he6 hg6 HK5 HSK
    go_wp2
    refine ⟨⟨ns ++ [x], ks ++ [k], l6, !ok, C1, p1, q1, us1', C2, p2, q2, us2', fi2', HK6.out.read hgw (grownBy_setCell _ ⟨g, 1, none⟩ _) (HK6.out.rd.setFail _), HLN2.out, HP4.out.less HL6.out (fun _ => rfl), HC6.out⟩, ?_⟩
    have e2 : (if false = true then 0 else 1 + lx.length) = 1 + lx.length := if_neg (by decide)
    rw [(HK6.out.rd.setFail (!ok)).meas, HM.out, e2]
    have h1 := HLE4.out
    have h2 := HL6.out
    split <;> omega
end Go.Proofs.YtnaecdoeldoipaaGreatDoor
set_option linter.unusedVariables false
set_option linter.unusedSimpArgs false
namespace Go.Proofs.YtnaecdoeldoipaaGreatDoor
open Go.ChangeShapes Go.WideShapes Go.ChangeAt Go.RowKit

/-- ahead of and behind the parts: the boxes -/
structure SJ (w W : World) (g lv : Nat) (vs : List Value) (l : List UInt8) (fail : Bool) : Prop where
  kb : Row W (w.heap.size + 3) 38 vs
  rd : RdJ W g l fail
  rb : Row W w.heap.size 65 [.pointer (some ⟨g, 0, none⟩)]
  lb : Row W (w.heap.size + 1) 3 [.int .i64 (lv : Int)]
  zb : Row W (w.heap.size + 2) 38 [.int .i64 0, .slice none 0 0, .slice none 0 0]
  gr : w.grownBy W (some g)
section
variable {w W W' : World} {g lv : Nat} {vs vs' : List Value} {l l' : List UInt8} {fail fail' : Bool}
theorem SJ.read (h : SJ w W g lv vs l fail) (hgw : g < w.heap.size) (hg : W.grownBy W' (some g)) (hr : RdJ W' g l' fail') : SJ w W' g lv vs l' fail' :=
  ⟨h.kb.grown hg (fun e => by injection e with e; omega), hr, h.rb.grown hg (fun e => by injection e with e; omega), h.lb.grown hg (fun e => by injection e with e; omega), h.zb.grown hg (fun e => by injection e with e; omega), only_trans h.gr hg⟩
theorem SJ.put (h : SJ w W g lv vs l fail) (hgw : g < w.heap.size) (hb : Below (w.heap.size + 3) W W') (hk : Row W' (w.heap.size + 3) 38 vs') : SJ w W' g lv vs' l fail :=
  ⟨hk, h.rd.low hb (by omega), h.rb.below hb (by omega), h.lb.below hb (by omega), h.zb.below hb (by omega), only_low h.gr hb (by omega)⟩
theorem SJ.toKJ (h : SJ w W g lv [.int .i64 5, .slice none 0 0, .slice none 0 0] l fail) : KJ w W g lv (.slice none 0 0) [] [] (.slice none 0 0) [] [] [] l fail :=
  ⟨⟨h.kb, OwS.nil _ _ _ _ _, OwS.nil _ _ _ _ _, Nat.lt_succ_self _, fun g h => (by cases h), fun g h => (by cases h), fun g h => (by cases h), fun g h => (by cases h)⟩, h.rd, h.rb, h.lb, h.zb, h.gr⟩
end
theorem eatenK_head {u l l' : List UInt8} {c : UInt8} (h : Eaten (c :: u) l true l') : ∀ a r, l = a :: r → a = c := fun a r e => by
  rcases h with ⟨_, h⟩ | ⟨h, _⟩
  · rw [h] at e
    simp only [List.cons_append] at e
    injection e with e _
    exact e.symm
  · cases h
theorem TakesK.listbad {lv : Nat} {l l1 l2 : List UInt8} {k : Kind} (he : Eaten [91] l true l1) (hc : ∀ a r, l = a :: r → a = 91) (hk : TakesK (lv + 1) l1 false k l2 true) : TakesK lv l false (.mk 4 [] [k]) l2 true := by
  intro k0 R hg _ e
  rcases Kind.read_cases hg _ R e with ⟨_, e1⟩ | ⟨_, e1⟩ | ⟨_, e1⟩ | ⟨x, rfl, hx, e1⟩ | ⟨_, _, _, e1⟩ | ⟨_, _, _, _, _, _, e1⟩
  rotate_left 3
  · obtain ⟨_, rfl⟩ := he.yes (r := bl x.text ++ 93 :: R) e1
    obtain ⟨_, h, _⟩ := hk x (93 :: R) hx rfl rfl
    cases h
  all_goals exact absurd (hc _ _ e1) (by decide)
theorem fl_eq {fl bad : Bool} {p : Prop} (h : fl = true ↔ (bad = true ∨ p)) (hp : ¬ p) : fl = bad := by cases fl <;> cases bad <;> simp_all
set_option maxRecDepth 100000 in
set_option maxHeartbeats 8000000 in
theorem kindRdI_of (f : Nat) (ih : ∀ f', f = f' + 1 → KindRdI f') (hpart : ∀ (f' lv : Nat), lv + 1 + f' = 7 → 1 ≤ lv → KindRdI f' → ∀ (w : World) (g : Nat), g < w.heap.size → PartAll w g lv) : KindRdI f := by
  intro l bad g lv w hlf hlv h
  have hgw := h.lt
  have HR0 := hide h
  have HIH := hide ih
  have HPT := hide hpart
  have HEND := hide (fun (W : World) (k : Kind) (vs : List Value) (fq : List Nat) (l' : List UInt8) (bad' : Bool) (hz : w.heap.size + 2 < W.heap.size) (ho : OwC W k.cells vs fq) (hn : New W fq (w.heap.size + 3)) (hr : RdJ W g l' bad') (hg : w.grownBy W (some g)) (hp : Paid lv l k.bulk l' bad') (ht : TakesK lv l bad k l' bad') (hbb : bad' = false → bad = false) =>
    show KindOut (fun w l b => RdJ w g l b) g lv l bad w (.returned (.agg vs.toArray)) (putN W (w.heap.size + 2) 0 vs) from by
      have hgr := setN_grown vs 0 (grown_refl W (some (w.heap.size + 2)))
      have hno : w.heap.size + 2 ∉ fq := hn.out (by omega)
      have hb : Below w.heap.size W (putN W (w.heap.size + 2) 0 vs) := below_of_grown hgr (by omega) (by omega)
      exact ⟨k, vs, fq, l', bad', rfl, ho.grown hgr hn.lt hno, (hn.grown hgr (fun b e => by injection e with e; subst e; exact hno)).mono (by omega), hr.low hb hgw, only_low hg hb (Nat.le_refl _), hp, ht, hbb⟩)
  clear h ih hpart
  go_enter Tryz.func62, Tryz.ntmps62
  go_upto_region 1 with fail
  generalize hw1 : World.alloc _ _ = w1
  have hb1 : Below w.heap.size w w1 := by rw [← hw1]; exact (((Below.refl _ _).alloc (Nat.le_refl _) _).alloc (by rw [World.size_alloc]; omega) _).alloc (by rw [World.size_alloc, World.size_alloc]; omega) _
  have hsz1 : w1.heap.size = w.heap.size + 3 := by rw [← hw1, World.size_alloc, World.size_alloc, World.size_alloc]
  have HRB := hide (show Row w1 w.heap.size 65 [.pointer (some ⟨g, 0, none⟩)] from by rw [← hw1]; exact ((Row.new w _ _).alloc _).alloc _)
  have HLB := hide (show Row w1 (w.heap.size + 1) 3 [.int .i64 (lv : Int)] from by
    rw [← hw1]
    have h := Row.new (w.alloc (.cells #[.pointer (some ⟨g, 0, none⟩)] 65)) 3 [.int .i64 (lv : Int)]
    rw [World.size_alloc] at h
    exact h.alloc _)
  have HZB := hide (show Row w1 (w.heap.size + 2) 38 [.int .i64 0, .slice none 0 0, .slice none 0 0] from by
    rw [← hw1]
    have h := Row.new ((w.alloc (.cells #[.pointer (some ⟨g, 0, none⟩)] 65)).alloc (.cells #[.int .i64 (lv : Int)] 3)) 38 [.int .i64 0, .slice none 0 0, .slice none 0 0]
    rw [World.size_alloc, World.size_alloc] at h
    exact h)
  have HR1 := hide (HR0.out.below hb1)
  have HG1 := hide (grownBy_below hb1 (some g))
  have r0 := HRB.out.cell 0
  have l0 := HLB.out.cell 0
  have lr := HRB.out.lt
  have ll := HLB.out.lt
  obtain ⟨hbc, hbf⟩ := HR1.out.cells
  have lg := HR1.out.lt
  clear hw1 hb1 HR0
  -- the level, and the box of the result
  have hsj : ∃ fl : Bool, (fl = true ↔ (bad = true ∨ 6 < lv)) := by
    by_cases h : bad = true ∨ 6 < lv
    · exact ⟨true, by simp [h]⟩
    · exact ⟨false, by simp [h]⟩
  obtain ⟨fl, hfl⟩ := hsj
  have HFL := hide hfl
  clear hfl
  by_cases hd : 6 < lv
  case' pos =>
    have hdi : (6 : Int) < (lv : Int) := by omega
    go_upto_region 5 with fail
    generalize hw2 : World.alloc _ _ = w2
    obtain rfl : fl = true := HFL.out.2 (.inr hd)
    have hgs := only_setCell (p := ⟨g, 1, none⟩) (grown_refl w1 (some g)) (.inl rfl) (.bool true)
    have hbn : Below (w1.setCell ⟨g, 1, none⟩ (.bool true)).heap.size (w1.setCell ⟨g, 1, none⟩ (.bool true)) w2 := by rw [← hw2]; exact (Below.refl _ _).alloc (Nat.le_refl _) _
    have hszn : (w1.setCell ⟨g, 1, none⟩ (.bool true)).heap.size = w.heap.size + 3 := by simpa [World.setCell] using hsz1
    have HS := hide (show SJ w w2 g lv [.int .i64 0, .slice none 0 0, .slice none 0 0] l true from by
      have hk : Row w2 (w.heap.size + 3) 38 [.int .i64 0, .slice none 0 0, .slice none 0 0] := by
        have h := Row.new (w1.setCell ⟨g, 1, none⟩ (.bool true)) 38 [.int .i64 0, .slice none 0 0, .slice none 0 0]
        rw [hszn] at h
        rw [← hw2]
        exact h
      exact ⟨hk, (HR1.out.setFail true).below hbn, (HRB.out.grown hgs (fun e => by injection e with e; omega)).below hbn (by omega), (HLB.out.grown hgs (fun e => by injection e with e; omega)).below hbn (by omega), (HZB.out.grown hgs (fun e => by injection e with e; omega)).below hbn (by omega), only_low (only_trans HG1.out hgs) hbn (by omega)⟩)
    clear hw2 hgs hbn hszn hdi hbc hbf r0 l0 lr ll HRB HLB HZB HR1 HG1 lg hsz1
  case' neg =>
    have hdi : ¬ ((6 : Int) < (lv : Int)) := by omega
    go_upto_region 5 with fail
    generalize hw2 : World.alloc _ _ = w2
    have hbn : Below w1.heap.size w1 w2 := by rw [← hw2]; exact (Below.refl _ _).alloc (Nat.le_refl _) _
    obtain rfl : fl = bad := by
      exact fl_eq HFL.out hd
    have HS := hide (show SJ w w2 g lv [.int .i64 0, .slice none 0 0, .slice none 0 0] l fl from by
      have hk : Row w2 (w.heap.size + 3) 38 [.int .i64 0, .slice none 0 0, .slice none 0 0] := by
        have h := Row.new w1 38 [.int .i64 0, .slice none 0 0, .slice none 0 0]
        rw [hsz1] at h
        rw [← hw2]
        exact h
      exact ⟨hk, HR1.out.below hbn, HRB.out.below hbn (by omega), HLB.out.below hbn (by omega), HZB.out.below hbn (by omega), only_low HG1.out hbn (by omega)⟩)
    clear hw2 hbn hdi hbc hbf r0 l0 lr ll HRB HLB HZB HR1 HG1 lg hsz1
  case' neg => rcases fl with _ | _
  case pos =>
    have HT := hide (show TakesK lv l bad (.mk 0 [] []) l true from TakesK.deep hd)
    have r0 := HS.out.rb.cell 0
    have rl := HS.out.rb.lt
    have l0 := HS.out.lb.cell 0
    have ll := HS.out.lb.lt
    obtain ⟨hbc, hbf⟩ := HS.out.rd.cells
    have lg := HS.out.rd.lt
    have q0 := HS.out.kb.cell 0
    have p0 := HS.out.kb.frozen 0
    have q1 := HS.out.kb.cell 1
    have p1 := HS.out.kb.frozen 1
    have q2 := HS.out.kb.cell 2
    have p2 := HS.out.kb.frozen 2
    have z0 := HS.out.zb.cell 0
    have y0 := HS.out.zb.frozen 0
    have z1 := HS.out.zb.cell 1
    have y1 := HS.out.zb.frozen 1
    have z2 := HS.out.zb.cell 2
    have y2 := HS.out.zb.frozen 2
    have lk := HS.out.kb.lt
    have lz := HS.out.zb.lt
    go_wp2
    refine bodyPost_ret (ret_row rfl _ _ (w.heap.size + 2) 38 [.int .i64 0, .slice none 0 0, .slice none 0 0] (HS.out.zb.setAll [.int .i64 0, .slice none 0 0, .slice none 0 0] rfl) _ rfl Tryz.underlying38 rfl (by kernel_rfl)) rfl ?_
    exact HEND.out w2 (.mk 0 [] []) _ [] l true HS.out.zb.lt (kleaf_ow _ 0 (by decide)) (New.nil _ _) HS.out.rd HS.out.gr (Paid.none lv l) HT.out (fun h => by cases h)
  case neg.true =>
    have HT := hide (show TakesK lv l true (.mk 0 [] []) l true from TakesK.bad)
    have r0 := HS.out.rb.cell 0
    have rl := HS.out.rb.lt
    have l0 := HS.out.lb.cell 0
    have ll := HS.out.lb.lt
    obtain ⟨hbc, hbf⟩ := HS.out.rd.cells
    have lg := HS.out.rd.lt
    have q0 := HS.out.kb.cell 0
    have p0 := HS.out.kb.frozen 0
    have q1 := HS.out.kb.cell 1
    have p1 := HS.out.kb.frozen 1
    have q2 := HS.out.kb.cell 2
    have p2 := HS.out.kb.frozen 2
    have z0 := HS.out.zb.cell 0
    have y0 := HS.out.zb.frozen 0
    have z1 := HS.out.zb.cell 1
    have y1 := HS.out.zb.frozen 1
    have z2 := HS.out.zb.cell 2
    have y2 := HS.out.zb.frozen 2
    have lk := HS.out.kb.lt
    have lz := HS.out.zb.lt
    go_wp2
    refine bodyPost_ret (ret_row rfl _ _ (w.heap.size + 2) 38 [.int .i64 0, .slice none 0 0, .slice none 0 0] (HS.out.zb.setAll [.int .i64 0, .slice none 0 0, .slice none 0 0] rfl) _ rfl Tryz.underlying38 rfl (by kernel_rfl)) rfl ?_
    exact HEND.out w2 (.mk 0 [] []) _ [] l true HS.out.zb.lt (kleaf_ow _ 0 (by decide)) (New.nil _ _) HS.out.rd HS.out.gr (Paid.none lv l) HT.out (fun h => by cases h)
  case neg.false =>
    have hd6 : lv ≤ 6 := Nat.not_lt.1 hd
    obtain ⟨f', rfl⟩ : ∃ f', f = f' + 1 := ⟨f - 1, by omega⟩
    have HI := hide (HIH.out f' rfl)
    have HPA := hide (HPT.out f' lv (by omega) hlv HI.out w g hgw)
    have hwd : IntKind.i64.wrap ((lv : Int) + 1) = (lv : Int) + 1 := wrapI _ (by omega) (by omega)
    have HIK := hide (fun (W : World) (l : List UInt8) (bad : Bool) (h : RdJ W g l bad) => show Calls Tryz.prog 62 #[.pointer (some ⟨g, 0, none⟩), .int .i64 ((lv : Int) + 1)] W (KindOut (fun w l b => RdJ w g l b) g (lv + 1) l bad W) from by
      have h := HI.out l bad g (lv + 1) W (by omega) (by omega) h
      rw [show ((lv + 1 : Nat) : Int) = (lv : Int) + 1 by omega] at h
      exact h)
    clear HIH HPT HFL
    have r0 := HS.out.rb.cell 0
    have rl := HS.out.rb.lt
    obtain ⟨hbc, hbf⟩ := HS.out.rd.cells
    have lg := HS.out.rd.lt
    have HSK := hide (skip_any HS.out.rd ⟨#[91]⟩)
    go_wp2_with fail
    refine HSK.out.mono ?_
    rintro e w3 ⟨ok, l1, rfl, hr, he, hg⟩
    have HE1 := hide (show Eaten [91] l ok l1 from he)
    replace HS := hide (HS.out.read hgw hg hr)
    clear r0 rl HSK hr he hg hbc hbf lg
    rcases ok with _ | _
    rotate_left
    · skip
      have r0 := HS.out.rb.cell 0
      have rl := HS.out.rb.lt
      have l0 := HS.out.lb.cell 0
      have ll := HS.out.lb.lt
      have hkb := HS.out.kb.lt
      have HKC := hide (HIK.out _ _ _ HS.out.rd)
      go_wp2_with fail
      refine HKC.out.mono ?_
      rintro e wk ⟨k, us, fq, lk5, b5, rfl, ho5, hn5, hr5, hg5, hp5, ht5, hb5⟩
      have HN5 := hide (hn5.mono (show w.heap.size + 3 + 1 ≤ w3.heap.size from hkb))
      replace HS := hide (HS.out.read hgw hg5 hr5)
      obtain ⟨B1, d1, B2, d2, j1, j2, rfl, k0, k1, k2, efq⟩ := ho5.oKind
      have HO5 := hide ho5
      have HP5 := hide hp5
      have HT5 := hide ht5
      have HB5 := hide hb5
      clear r0 rl l0 ll hkb HKC ho5 hn5 hr5 hg5 hp5 ht5 hb5 k1 k2 efq
      have q0 := HS.out.kb.cell 0
      have p0 := HS.out.kb.frozen 0
      have q1 := HS.out.kb.cell 1
      have p1 := HS.out.kb.frozen 1
      have q2 := HS.out.kb.cell 2
      have p2 := HS.out.kb.frozen 2
      have lk := HS.out.kb.lt
      go_upto_region 8 with fail
      generalize hw6 : World.alloc _ _ = w6
      have e6 : putN (wk.alloc (.cells #[.int .i64 k.sort, .slice B1 k.names.length d1, .slice B2 k.kids.length d2] 38)) (w.heap.size + 3) 0 [.int .i64 4, .slice none 0 0, .slice (some ⟨wk.heap.size, 0, none⟩) 1 1] = w6 := by rw [putN_alloc _ _ _ _ lk]; exact hw6
      have hgp := setN_grown [.int .i64 4, .slice none 0 0, .slice (some ⟨wk.heap.size, 0, none⟩) 1 1] 0 (grown_refl (wk.alloc (.cells #[.int .i64 k.sort, .slice B1 k.names.length d1, .slice B2 k.kids.length d2] 38)) (some (w.heap.size + 3)))
      rw [e6] at hgp
      have hA := (Below.refl wk.heap.size wk).alloc (Nat.le_refl _) (.cells #[.int .i64 k.sort, .slice B1 k.names.length d1, .slice B2 k.kids.length d2] 38)
      have hsA : (wk.alloc (.cells #[.int .i64 k.sort, .slice B1 k.names.length d1, .slice B2 k.kids.length d2] 38)).heap.size = wk.heap.size + 1 := World.size_alloc _ _
      have hnb : w.heap.size + 3 ∉ fq := HN5.out.out (by omega)
      have HR6 := hide (show Row w6 wk.heap.size 38 [.int .i64 k.sort, .slice B1 k.names.length d1, .slice B2 k.kids.length d2] from (Row.new wk _ _).grown hgp (fun e => by injection e with e; omega))
      have HO6 := hide ((HO5.out.alloc HN5.out.lt (.cells #[.int .i64 k.sort, .slice B1 k.names.length d1, .slice B2 k.kids.length d2] 38)).grown hgp (HN5.out.alloc (.cells #[.int .i64 k.sort, .slice B1 k.names.length d1, .slice B2 k.kids.length d2] 38)).lt hnb)
      have HN6 := hide ((HN5.out.alloc (.cells #[.int .i64 k.sort, .slice B1 k.names.length d1, .slice B2 k.kids.length d2] 38)).grown hgp (fun b e => by injection e with e; subst e; exact hnb))
      have HX6 := hide (show wk.heap.size ∉ fq ∧ w.heap.size + 3 ≤ wk.heap.size from ⟨fun hm => Nat.lt_irrefl _ (HN5.out.lt _ hm), Nat.le_of_lt lk⟩)
      replace HS := hide (show SJ w w6 g lv [.int .i64 4, .slice none 0 0, .slice (some ⟨wk.heap.size, 0, none⟩) 1 1] lk5 b5 from HS.out.put hgw ((hA.mono (Nat.le_of_lt lk)).trans (below_of_grown hgp (Nat.le_refl _) (by omega))) (by rw [← e6]; exact (HS.out.kb.alloc _).setAll [.int .i64 4, .slice none 0 0, .slice (some ⟨wk.heap.size, 0, none⟩) 1 1] rfl))
      clear hw6 e6 hgp hA hsA hnb HO5 HN5 q0 q1 q2 p0 p1 p2 lk
      have hbr : w6.grownBy w6.drew (some g) := grown_drewN w6 g 1
      have r0 := HS.out.rb.cell 0
      have rl := HS.out.rb.lt
      obtain ⟨hbc, hbf⟩ := HS.out.rd.cells
      have lg := HS.out.rd.lt
      rcases b5 with _ | _
      rotate_left
      · go_region_with (fail)
        all_goals
          clear r0 rl hbc hbf lg
          have r0 := HS.out.rb.cell 0
          have rl := HS.out.rb.lt
          have l0 := HS.out.lb.cell 0
          have ll := HS.out.lb.lt
          obtain ⟨hbc, hbf⟩ := HS.out.rd.cells
          have lg := HS.out.rd.lt
          have q0 := HS.out.kb.cell 0
          have p0 := HS.out.kb.frozen 0
          have q1 := HS.out.kb.cell 1
          have p1 := HS.out.kb.frozen 1
          have q2 := HS.out.kb.cell 2
          have p2 := HS.out.kb.frozen 2
          have z0 := HS.out.zb.cell 0
          have y0 := HS.out.zb.frozen 0
          have z1 := HS.out.zb.cell 1
          have y1 := HS.out.zb.frozen 1
          have z2 := HS.out.zb.cell 2
          have y2 := HS.out.zb.frozen 2
          have lk := HS.out.kb.lt
          have lz := HS.out.zb.lt
          go_wp2
          replace HS := hide (HS.out.read hgw (only_setCell (p := ⟨g, 1, none⟩) hbr (.inl rfl) (.bool true)) ((HS.out.rd.drewN 1).setFail true))
          have hgt := only_setCell (p := ⟨g, 1, none⟩) hbr (.inl rfl) (.bool true)
          replace HO6 := hide (HO6.out.grown hgt HN6.out.lt (HN6.out.out (by omega)))
          replace HR6 := hide (HR6.out.grown hgt (fun e => by injection e with e; have := HX6.out.2; omega))
          replace HN6 := hide (HN6.out.grown hgt (fun b e => by injection e with e; subst e; exact HN6.out.out (by omega)))
          refine bodyPost_ret (ret_row rfl _ _ (w.heap.size + 2) 38 [.int .i64 4, .slice none 0 0, .slice (some ⟨wk.heap.size, 0, none⟩) 1 1] (HS.out.zb.setAll [.int .i64 4, .slice none 0 0, .slice (some ⟨wk.heap.size, 0, none⟩) 1 1] rfl) _ rfl Tryz.underlying38 rfl (by kernel_rfl)) rfl ?_
          exact HEND.out _ (.mk 4 [] [k]) _ (wk.heap.size :: fq) lk5 true HS.out.zb.lt (kone_ow (by decide) HO6.out wk.heap.size HR6.out) ((HN6.out.mono (by omega)).consHi HX6.out.1 HX6.out.2 (Unf.row HR6.out) HR6.out.lt) HS.out.rd HS.out.gr (by rw [Kind.bulk_one]; exact Paid.more (by decide) HE1.out HP5.out (fun _ => rfl) hd6) (TakesK.listbad HE1.out (eatenK_head HE1.out) HT5.out) (fun _ => by first | rfl | trivial)
      have HSK := hide (skip_any (HS.out.rd.drewN 1) ⟨#[93]⟩)
      go_region_with (go_simp; go_at_call 98; have hh : Calls Tryz.prog 98 _ w6.drew _ := HSK.out; refine hh.mono ?_; clear hh; rintro e w7 ⟨ok2, l7, rfl, hr7, he7, hg7⟩; have HE7 := hide (show Eaten [93] lk5 ok2 l7 from he7); have HS7 := hide (HS.out.read hgw (only_trans hbr hg7) hr7); have r7 := HS7.out.rb.cell 0; have rl7 := HS7.out.rb.lt; obtain ⟨hbc7, hbf7⟩ := HS7.out.rd.cells; have lg7 := HS7.out.rd.lt; have hg7' := hg7; clear hr7 he7 hg7)
      all_goals
        clear r7 rl7 hbc7 hbf7 lg7 r0 rl hbc hbf lg HSK
        have hx6 : w6.heap.size ≤ w7.heap.size := hg7'.size
        have hgq := only_trans hbr hg7'
        replace HO6 := hide (HO6.out.grown hgq HN6.out.lt (HN6.out.out (by omega)))
        replace HR6 := hide (HR6.out.grown hgq (fun e => by injection e with e; have := HX6.out.2; omega))
        replace HN6 := hide (HN6.out.grown hgq (fun b e => by injection e with e; subst e; exact HN6.out.out (by omega)))
        have hgs : w7.grownBy (w7.setCell ⟨g, 1, none⟩ (.bool (!ok2))) (some g) := grownBy_setCell w7 ⟨g, 1, none⟩ _
        replace HO6 := hide (HO6.out.grown hgs HN6.out.lt (HN6.out.out (by omega)))
        replace HR6 := hide (HR6.out.grown hgs (fun e => by injection e with e; have := HX6.out.2; omega))
        replace HN6 := hide (HN6.out.grown hgs (fun b e => by injection e with e; subst e; exact HN6.out.out (by omega)))
        have r0 := HS7.out.rb.cell 0
        have rl := HS7.out.rb.lt
        have l0 := HS7.out.lb.cell 0
        have ll := HS7.out.lb.lt
        obtain ⟨hbc, hbf⟩ := HS7.out.rd.cells
        have lg := HS7.out.rd.lt
        have q0 := HS7.out.kb.cell 0
        have p0 := HS7.out.kb.frozen 0
        have q1 := HS7.out.kb.cell 1
        have p1 := HS7.out.kb.frozen 1
        have q2 := HS7.out.kb.cell 2
        have p2 := HS7.out.kb.frozen 2
        have z0 := HS7.out.zb.cell 0
        have y0 := HS7.out.zb.frozen 0
        have z1 := HS7.out.zb.cell 1
        have y1 := HS7.out.zb.frozen 1
        have z2 := HS7.out.zb.cell 2
        have y2 := HS7.out.zb.frozen 2
        have lk := HS7.out.kb.lt
        have lz := HS7.out.zb.lt
        go_wp2
        replace HS := hide (HS7.out.read hgw hgs (HS7.out.rd.setFail (!ok2)))
        refine bodyPost_ret (ret_row rfl _ _ (w.heap.size + 2) 38 [.int .i64 4, .slice none 0 0, .slice (some ⟨wk.heap.size, 0, none⟩) 1 1] (HS.out.zb.setAll [.int .i64 4, .slice none 0 0, .slice (some ⟨wk.heap.size, 0, none⟩) 1 1] rfl) _ rfl Tryz.underlying38 rfl (by kernel_rfl)) rfl ?_
        exact HEND.out _ (.mk 4 [] [k]) _ (wk.heap.size :: fq) l7 (!ok2) HS.out.zb.lt (kone_ow (by decide) HO6.out wk.heap.size HR6.out) ((HN6.out.mono (by omega)).consHi HX6.out.1 HX6.out.2 (Unf.row HR6.out) HR6.out.lt) HS.out.rd HS.out.gr (by rw [Kind.bulk_one]; exact (Paid.more (by decide) HE1.out HP5.out (fun _ => rfl) hd6).shut HE7.out) (TakesK.list HE1.out (eatenK_head HE1.out) HT5.out HE7.out) (fun _ => by first | rfl | trivial)
    obtain ⟨e1, hno1⟩ := HE1.out.no
    replace e1 := e1.symm
    subst e1
    have HNO1 := hide (show ∀ r, l ≠ [91] ++ r from hno1)
    clear hno1 HE1
    have r0 := HS.out.rb.cell 0
    have rl := HS.out.rb.lt
    have HSK := hide (skip_any HS.out.rd ⟨#[63]⟩)
    go_wp2_with fail
    refine HSK.out.mono ?_
    rintro e w4 ⟨ok, l2, rfl, hr, he, hg⟩
    have HE2 := hide (show Eaten [63] l ok l2 from he)
    replace HS := hide (HS.out.read hgw hg hr)
    clear r0 rl HSK hr he hg
    rcases ok with _ | _
    rotate_left
    · skip
      have r0 := HS.out.rb.cell 0
      have rl := HS.out.rb.lt
      have l0 := HS.out.lb.cell 0
      have ll := HS.out.lb.lt
      have hkb := HS.out.kb.lt
      have HKC := hide (HIK.out _ _ _ HS.out.rd)
      go_wp2_with fail
      refine HKC.out.mono ?_
      rintro e wk ⟨k, us, fq, lk5, b5, rfl, ho5, hn5, hr5, hg5, hp5, ht5, hb5⟩
      have HN5 := hide (hn5.mono (show w.heap.size + 3 + 1 ≤ w4.heap.size from hkb))
      replace HS := hide (HS.out.read hgw hg5 hr5)
      obtain ⟨B1, d1, B2, d2, j1, j2, rfl, k0, k1, k2, efq⟩ := ho5.oKind
      have HO5 := hide ho5
      have HP5 := hide hp5
      have HT5 := hide ht5
      have HB5 := hide hb5
      clear r0 rl l0 ll hkb HKC ho5 hn5 hr5 hg5 hp5 ht5 hb5 k1 k2 efq
      have q0 := HS.out.kb.cell 0
      have p0 := HS.out.kb.frozen 0
      have q1 := HS.out.kb.cell 1
      have p1 := HS.out.kb.frozen 1
      have q2 := HS.out.kb.cell 2
      have p2 := HS.out.kb.frozen 2
      have lk := HS.out.kb.lt
      go_upto_region 20 with fail
      generalize hw6 : World.alloc _ _ = w6
      have e6 : putN (wk.alloc (.cells #[.int .i64 k.sort, .slice B1 k.names.length d1, .slice B2 k.kids.length d2] 38)) (w.heap.size + 3) 0 [.int .i64 6, .slice none 0 0, .slice (some ⟨wk.heap.size, 0, none⟩) 1 1] = w6 := by rw [putN_alloc _ _ _ _ lk]; exact hw6
      have hgp := setN_grown [.int .i64 6, .slice none 0 0, .slice (some ⟨wk.heap.size, 0, none⟩) 1 1] 0 (grown_refl (wk.alloc (.cells #[.int .i64 k.sort, .slice B1 k.names.length d1, .slice B2 k.kids.length d2] 38)) (some (w.heap.size + 3)))
      rw [e6] at hgp
      have hA := (Below.refl wk.heap.size wk).alloc (Nat.le_refl _) (.cells #[.int .i64 k.sort, .slice B1 k.names.length d1, .slice B2 k.kids.length d2] 38)
      have hsA : (wk.alloc (.cells #[.int .i64 k.sort, .slice B1 k.names.length d1, .slice B2 k.kids.length d2] 38)).heap.size = wk.heap.size + 1 := World.size_alloc _ _
      have hnb : w.heap.size + 3 ∉ fq := HN5.out.out (by omega)
      have HR6 := hide (show Row w6 wk.heap.size 38 [.int .i64 k.sort, .slice B1 k.names.length d1, .slice B2 k.kids.length d2] from (Row.new wk _ _).grown hgp (fun e => by injection e with e; omega))
      have HO6 := hide ((HO5.out.alloc HN5.out.lt (.cells #[.int .i64 k.sort, .slice B1 k.names.length d1, .slice B2 k.kids.length d2] 38)).grown hgp (HN5.out.alloc (.cells #[.int .i64 k.sort, .slice B1 k.names.length d1, .slice B2 k.kids.length d2] 38)).lt hnb)
      have HN6 := hide ((HN5.out.alloc (.cells #[.int .i64 k.sort, .slice B1 k.names.length d1, .slice B2 k.kids.length d2] 38)).grown hgp (fun b e => by injection e with e; subst e; exact hnb))
      have HX6 := hide (show wk.heap.size ∉ fq ∧ w.heap.size + 3 ≤ wk.heap.size from ⟨fun hm => Nat.lt_irrefl _ (HN5.out.lt _ hm), Nat.le_of_lt lk⟩)
      replace HS := hide (show SJ w w6 g lv [.int .i64 6, .slice none 0 0, .slice (some ⟨wk.heap.size, 0, none⟩) 1 1] lk5 b5 from HS.out.put hgw ((hA.mono (Nat.le_of_lt lk)).trans (below_of_grown hgp (Nat.le_refl _) (by omega))) (by rw [← e6]; exact (HS.out.kb.alloc _).setAll [.int .i64 6, .slice none 0 0, .slice (some ⟨wk.heap.size, 0, none⟩) 1 1] rfl))
      clear hw6 e6 hgp hA hsA hnb HO5 HN5 q0 q1 q2 p0 p1 p2 lk
      have r0 := HS.out.rb.cell 0
      have rl := HS.out.rb.lt
      have l0 := HS.out.lb.cell 0
      have ll := HS.out.lb.lt
      obtain ⟨hbc, hbf⟩ := HS.out.rd.cells
      have lg := HS.out.rd.lt
      have q0 := HS.out.kb.cell 0
      have p0 := HS.out.kb.frozen 0
      have q1 := HS.out.kb.cell 1
      have p1 := HS.out.kb.frozen 1
      have q2 := HS.out.kb.cell 2
      have p2 := HS.out.kb.frozen 2
      have z0 := HS.out.zb.cell 0
      have y0 := HS.out.zb.frozen 0
      have z1 := HS.out.zb.cell 1
      have y1 := HS.out.zb.frozen 1
      have z2 := HS.out.zb.cell 2
      have y2 := HS.out.zb.frozen 2
      have lk := HS.out.kb.lt
      have lz := HS.out.zb.lt
      go_wp2
      refine bodyPost_ret (ret_row rfl _ _ (w.heap.size + 2) 38 [.int .i64 6, .slice none 0 0, .slice (some ⟨wk.heap.size, 0, none⟩) 1 1] (HS.out.zb.setAll [.int .i64 6, .slice none 0 0, .slice (some ⟨wk.heap.size, 0, none⟩) 1 1] rfl) _ rfl Tryz.underlying38 rfl (by kernel_rfl)) rfl ?_
      exact HEND.out _ (.mk 6 [] [k]) _ (wk.heap.size :: fq) lk5 b5 HS.out.zb.lt (kone_ow (by decide) HO6.out wk.heap.size HR6.out) ((HN6.out.mono (by omega)).consHi HX6.out.1 HX6.out.2 (Unf.row HR6.out) HR6.out.lt) HS.out.rd HS.out.gr (by rw [Kind.bulk_one]; exact Paid.more (by decide) HE2.out HP5.out (fun _ => rfl) hd6) (TakesK.maybe HE2.out (eatenK_head HE2.out) HT5.out) (fun _ => by first | rfl | trivial)
    obtain ⟨e2, hno2⟩ := HE2.out.no
    replace e2 := e2.symm
    subst e2
    have HNO2 := hide (show ∀ r, l ≠ [63] ++ r from hno2)
    clear hno2 HE2
    have r0 := HS.out.rb.cell 0
    have rl := HS.out.rb.lt
    have HSK := hide (skip_any HS.out.rd ⟨#[123]⟩)
    go_wp2_with fail
    refine HSK.out.mono ?_
    rintro e w5 ⟨ok, l3, rfl, hr, he, hg⟩
    have HE3 := hide (show Eaten [123] l ok l3 from he)
    replace HS := hide (HS.out.read hgw hg hr)
    clear r0 rl HSK hr he hg
    rcases ok with _ | _
    rotate_left
    · skip
      obtain rfl : l = 123 :: l3 := by rcases HE3.out with ⟨_, h⟩ | ⟨h, _⟩ <;> first | exact h | cases h
      have q0 := HS.out.kb.cell 0
      have p0 := HS.out.kb.frozen 0
      have q1 := HS.out.kb.cell 1
      have p1 := HS.out.kb.frozen 1
      have q2 := HS.out.kb.cell 2
      have p2 := HS.out.kb.frozen 2
      have lk := HS.out.kb.lt
      have r0 := HS.out.rb.cell 0
      have rl := HS.out.rb.lt
      replace HS := hide (HS.out.put hgw ((Below.refl _ _).setCell (p := ⟨w.heap.size + 3, 0, none⟩) (Nat.le_refl _) (.int .i64 5)) (HS.out.kb.set 0 (.int .i64 5)))
      have HKD := hide (kidsJ_any hd6 hgw HPA.out (HS.out.toKJ))
      go_wp2_with fail
      refine HKD.out.mono ?_
      rintro e w9 ⟨ns, ks, l9, b9, B1, n1, d1, us1, B2, n2, d2, us2, fi2, rfl, hk, hpd, htk⟩
      have HK := hide hk
      have HPD := hide hpd
      have HTK := hide htk
      clear q0 q1 q2 p0 p1 p2 lk r0 rl HKD hk hpd htk
      have q0 := HK.out.two.box.cell 0
      have q1 := HK.out.two.box.cell 1
      have q2 := HK.out.two.box.cell 2
      have z0 := HK.out.zb.cell 0
      have y0 := HK.out.zb.frozen 0
      have z1 := HK.out.zb.cell 1
      have y1 := HK.out.zb.frozen 1
      have z2 := HK.out.zb.cell 2
      have y2 := HK.out.zb.frozen 2
      have lk := HK.out.two.box.lt
      have lz := HK.out.zb.lt
      go_wp2
      obtain ⟨fq, ho, hnw⟩ := kform_ow HK.out.two (by decide)
      refine bodyPost_ret (ret_row rfl _ _ (w.heap.size + 2) 38 (kindMk 5 (.slice B1 n1 d1) (.slice B2 n2 d2)) (HK.out.zb.setAll (kindMk 5 (.slice B1 n1 d1) (.slice B2 n2 d2)) rfl) _ rfl Tryz.underlying38 rfl (by kernel_rfl)) rfl ?_
      exact HEND.out _ (.mk 5 ns ks) _ fq l9 b9 HK.out.zb.lt ho (hnw.mono (by omega)) HK.out.rd HK.out.gr HPD.out HTK.out (fun _ => by first | rfl | trivial)
    obtain ⟨e3, hno3⟩ := HE3.out.no
    replace e3 := e3.symm
    subst e3
    have HNO3 := hide (show ∀ r, l ≠ [123] ++ r from hno3)
    clear hno3 HE3
    have r0 := HS.out.rb.cell 0
    have rl := HS.out.rb.lt
    have HSK := hide (skip_any HS.out.rd ⟨#[110, 117, 109]⟩)
    go_wp2_with fail
    refine HSK.out.mono ?_
    rintro e w6 ⟨ok, l4, rfl, hr, he, hg⟩
    have HE4 := hide (show Eaten [110, 117, 109] l ok l4 from he)
    replace HS := hide (HS.out.read hgw hg hr)
    clear r0 rl HSK hr he hg
    rcases ok with _ | _
    rotate_left
    · skip
      have r0 := HS.out.rb.cell 0
      have rl := HS.out.rb.lt
      have l0 := HS.out.lb.cell 0
      have ll := HS.out.lb.lt
      obtain ⟨hbc, hbf⟩ := HS.out.rd.cells
      have lg := HS.out.rd.lt
      have q0 := HS.out.kb.cell 0
      have p0 := HS.out.kb.frozen 0
      have q1 := HS.out.kb.cell 1
      have p1 := HS.out.kb.frozen 1
      have q2 := HS.out.kb.cell 2
      have p2 := HS.out.kb.frozen 2
      have z0 := HS.out.zb.cell 0
      have y0 := HS.out.zb.frozen 0
      have z1 := HS.out.zb.cell 1
      have y1 := HS.out.zb.frozen 1
      have z2 := HS.out.zb.cell 2
      have y2 := HS.out.zb.frozen 2
      have lk := HS.out.kb.lt
      have lz := HS.out.zb.lt
      replace HS := hide (HS.out.put hgw ((Below.refl _ _).setCell (p := ⟨w.heap.size + 3, 0, none⟩) (Nat.le_refl _) (.int .i64 1)) (HS.out.kb.set 0 (.int .i64 1)))
      go_wp2
      refine bodyPost_ret (ret_row rfl _ _ (w.heap.size + 2) 38 [.int .i64 1, .slice none 0 0, .slice none 0 0] (HS.out.zb.setAll [.int .i64 1, .slice none 0 0, .slice none 0 0] rfl) _ rfl Tryz.underlying38 rfl (by kernel_rfl)) rfl ?_
      exact HEND.out _ (.mk 1 [] []) _ [] l4 false HS.out.zb.lt (kleaf_ow _ 1 (by decide)) (New.nil _ _) HS.out.rd HS.out.gr (Paid.leaf (by decide) HE4.out _ rfl) (TakesK.num HE4.out (eatenK_head HE4.out)) (fun _ => by first | rfl | trivial)
    obtain ⟨e4, hno4⟩ := HE4.out.no
    replace e4 := e4.symm
    subst e4
    have HNO4 := hide (show ∀ r, l ≠ [110, 117, 109] ++ r from hno4)
    clear hno4 HE4
    have r0 := HS.out.rb.cell 0
    have rl := HS.out.rb.lt
    have HSK := hide (skip_any HS.out.rd ⟨#[116, 101, 120, 116]⟩)
    go_wp2_with fail
    refine HSK.out.mono ?_
    rintro e w7 ⟨ok, l5, rfl, hr, he, hg⟩
    have HE5 := hide (show Eaten [116, 101, 120, 116] l ok l5 from he)
    replace HS := hide (HS.out.read hgw hg hr)
    clear r0 rl HSK hr he hg
    rcases ok with _ | _
    rotate_left
    · skip
      have r0 := HS.out.rb.cell 0
      have rl := HS.out.rb.lt
      have l0 := HS.out.lb.cell 0
      have ll := HS.out.lb.lt
      obtain ⟨hbc, hbf⟩ := HS.out.rd.cells
      have lg := HS.out.rd.lt
      have q0 := HS.out.kb.cell 0
      have p0 := HS.out.kb.frozen 0
      have q1 := HS.out.kb.cell 1
      have p1 := HS.out.kb.frozen 1
      have q2 := HS.out.kb.cell 2
      have p2 := HS.out.kb.frozen 2
      have z0 := HS.out.zb.cell 0
      have y0 := HS.out.zb.frozen 0
      have z1 := HS.out.zb.cell 1
      have y1 := HS.out.zb.frozen 1
      have z2 := HS.out.zb.cell 2
      have y2 := HS.out.zb.frozen 2
      have lk := HS.out.kb.lt
      have lz := HS.out.zb.lt
      replace HS := hide (HS.out.put hgw ((Below.refl _ _).setCell (p := ⟨w.heap.size + 3, 0, none⟩) (Nat.le_refl _) (.int .i64 2)) (HS.out.kb.set 0 (.int .i64 2)))
      go_wp2
      refine bodyPost_ret (ret_row rfl _ _ (w.heap.size + 2) 38 [.int .i64 2, .slice none 0 0, .slice none 0 0] (HS.out.zb.setAll [.int .i64 2, .slice none 0 0, .slice none 0 0] rfl) _ rfl Tryz.underlying38 rfl (by kernel_rfl)) rfl ?_
      exact HEND.out _ (.mk 2 [] []) _ [] l5 false HS.out.zb.lt (kleaf_ow _ 2 (by decide)) (New.nil _ _) HS.out.rd HS.out.gr (Paid.leaf (by decide) HE5.out _ rfl) (TakesK.text HE5.out (eatenK_head HE5.out)) (fun _ => by first | rfl | trivial)
    obtain ⟨e5, hno5⟩ := HE5.out.no
    replace e5 := e5.symm
    subst e5
    have HNO5 := hide (show ∀ r, l ≠ [116, 101, 120, 116] ++ r from hno5)
    clear hno5 HE5
    have r0 := HS.out.rb.cell 0
    have rl := HS.out.rb.lt
    have HSK := hide (skip_any HS.out.rd ⟨#[102, 108, 97, 103]⟩)
    go_wp2_with fail
    refine HSK.out.mono ?_
    rintro e w8 ⟨ok, l6, rfl, hr, he, hg⟩
    have HE6 := hide (show Eaten [102, 108, 97, 103] l ok l6 from he)
    replace HS := hide (HS.out.read hgw hg hr)
    clear r0 rl HSK hr he hg
    rcases ok with _ | _
    rotate_left
    · skip
      have r0 := HS.out.rb.cell 0
      have rl := HS.out.rb.lt
      have l0 := HS.out.lb.cell 0
      have ll := HS.out.lb.lt
      obtain ⟨hbc, hbf⟩ := HS.out.rd.cells
      have lg := HS.out.rd.lt
      have q0 := HS.out.kb.cell 0
      have p0 := HS.out.kb.frozen 0
      have q1 := HS.out.kb.cell 1
      have p1 := HS.out.kb.frozen 1
      have q2 := HS.out.kb.cell 2
      have p2 := HS.out.kb.frozen 2
      have z0 := HS.out.zb.cell 0
      have y0 := HS.out.zb.frozen 0
      have z1 := HS.out.zb.cell 1
      have y1 := HS.out.zb.frozen 1
      have z2 := HS.out.zb.cell 2
      have y2 := HS.out.zb.frozen 2
      have lk := HS.out.kb.lt
      have lz := HS.out.zb.lt
      replace HS := hide (HS.out.put hgw ((Below.refl _ _).setCell (p := ⟨w.heap.size + 3, 0, none⟩) (Nat.le_refl _) (.int .i64 3)) (HS.out.kb.set 0 (.int .i64 3)))
      go_wp2
      refine bodyPost_ret (ret_row rfl _ _ (w.heap.size + 2) 38 [.int .i64 3, .slice none 0 0, .slice none 0 0] (HS.out.zb.setAll [.int .i64 3, .slice none 0 0, .slice none 0 0] rfl) _ rfl Tryz.underlying38 rfl (by kernel_rfl)) rfl ?_
      exact HEND.out _ (.mk 3 [] []) _ [] l6 false HS.out.zb.lt (kleaf_ow _ 3 (by decide)) (New.nil _ _) HS.out.rd HS.out.gr (Paid.leaf (by decide) HE6.out _ rfl) (TakesK.flag HE6.out (eatenK_head HE6.out)) (fun _ => by first | rfl | trivial)
    obtain ⟨e6, hno6⟩ := HE6.out.no
    replace e6 := e6.symm
    subst e6
    have HNO6 := hide (show ∀ r, l ≠ [102, 108, 97, 103] ++ r from hno6)
    clear hno6 HE6
    have r0 := HS.out.rb.cell 0
    have rl := HS.out.rb.lt
    have l0 := HS.out.lb.cell 0
    have ll := HS.out.lb.lt
    obtain ⟨hbc, hbf⟩ := HS.out.rd.cells
    have lg := HS.out.rd.lt
    have q0 := HS.out.kb.cell 0
    have p0 := HS.out.kb.frozen 0
    have q1 := HS.out.kb.cell 1
    have p1 := HS.out.kb.frozen 1
    have q2 := HS.out.kb.cell 2
    have p2 := HS.out.kb.frozen 2
    have z0 := HS.out.zb.cell 0
    have y0 := HS.out.zb.frozen 0
    have z1 := HS.out.zb.cell 1
    have y1 := HS.out.zb.frozen 1
    have z2 := HS.out.zb.cell 2
    have y2 := HS.out.zb.frozen 2
    have lk := HS.out.kb.lt
    have lz := HS.out.zb.lt
    replace HS := hide (HS.out.read hgw (grownBy_setCell _ ⟨g, 1, none⟩ _) (HS.out.rd.setFail true))
    go_wp2
    refine bodyPost_ret (ret_row rfl _ _ (w.heap.size + 2) 38 [.int .i64 0, .slice none 0 0, .slice none 0 0] (HS.out.zb.setAll [.int .i64 0, .slice none 0 0, .slice none 0 0] rfl) _ rfl Tryz.underlying38 rfl (by kernel_rfl)) rfl ?_
    exact HEND.out _ (.mk 0 [] []) _ [] l true HS.out.zb.lt (kleaf_ow _ 0 (by decide)) (New.nil _ _) HS.out.rd HS.out.gr (Paid.none lv l) (TakesK.none HNO1.out HNO2.out HNO3.out HNO4.out HNO5.out HNO6.out) (fun h => by cases h)
theorem kindRdI_any (hpart : ∀ (f' lv : Nat), lv + 1 + f' = 7 → 1 ≤ lv → KindRdI f' → ∀ (w : World) (g : Nat), g < w.heap.size → PartAll w g lv) : ∀ f, KindRdI f
  | 0 => kindRdI_of 0 (fun f' e => by cases e) hpart
  | f + 1 => kindRdI_of (f + 1) (fun f' e => by injection e with e; subst e; exact kindRdI_any hpart f) hpart
end Go.Proofs.YtnaecdoeldoipaaGreatDoor
set_option linter.unusedVariables false
set_option linter.unusedSimpArgs false
namespace Go.Proofs.YtnaecdoeldoipaaGreatDoor
open Go.ChangeShapes Go.WideShapes Go.ChangeAt Go.RowKit

theorem kindJ_any (f : Nat) : KindRdI f := kindRdI_any (fun f' lv h1 h2 ih w g hgw wr B1 n1 d1 ns us1 B2 n2 d2 ks us2 fi2 l hK hns hks => partJ_any h1 h2 ih hgw hK hns hks) f
set_option maxRecDepth 100000 in
set_option maxHeartbeats 2000000 in
theorem implKindRead_any (s : ByteArray) (w : World) (hs : s.size ≤ maxLen) :
    Calls Tryz.prog 22 #[.string s] w (KindReadRet s w) := by
  unfold maxLen at hs
  go_enter Tryz.func22, Tryz.ntmps22
  go_upto_region 1 with fail
  generalize hw1 : w.alloc _ = w1
  have hb1 : Below w.heap.size w w1 := by rw [← hw1]; exact (Below.refl _ _).alloc (Nat.le_refl _) _
  have HZ := hide (show Row w1 w.heap.size 38 [.int .i64 0, .slice none 0 0, .slice none 0 0] from by rw [← hw1]; exact Row.new w _ _)
  have hz1 := HZ.out.lt
  have HB1 := hide hb1
  clear hw1 hb1
  by_cases hlen : (800 : Int) < (s.size : Int)
  · have HN := hide (readK_long (s := s) (by omega))
    have z0 := HZ.out.cell 0
    have z1 := HZ.out.cell 1
    have z2 := HZ.out.cell 2
    have y0 := HZ.out.frozen 0
    have y1 := HZ.out.frozen 1
    have y2 := HZ.out.frozen 2
    go_wp2
    refine bodyPost_ret (ret_row_tmp rfl _ _ w.heap.size 38 [.int .i64 0, .slice none 0 0, .slice none 0 0] (HZ.out.setAll [.int .i64 0, .slice none 0 0, .slice none 0 0] rfl) _ _ rfl rfl Tryz.underlying38 rfl (by kernel_rfl)) rfl ?_
    exact kr_none HN.out (HB1.out.trans (below_of_grown (setN_grown [.int .i64 0, .slice none 0 0, .slice none 0 0] 0 (grown_refl w1 (some w.heap.size))) (Nat.le_refl _) HB1.out.size))
  go_upto_region 4 with fail
  generalize hw2 : w1.alloc _ = w2
  have hb2 : Below w1.heap.size w1 w2 := by rw [← hw2]; exact (Below.refl _ _).alloc (Nat.le_refl _) _
  have HR := hide (show RdJ w2 w1.heap.size (bl s) false from ⟨s, by rw [← hw2]; exact Row.new w1 _ _, by omega, rfl⟩)
  have HZ2 := hide (HZ.out.below hb2 hz1)
  have HB2 := hide (HB1.out.trans (hb2.mono HB1.out.size))
  have HK := hide (kindJ_any 6 (bl s) false w1.heap.size 1 w2 (by omega) (by omega) HR.out)
  have hr2 := HR.out.lt
  clear hw2 hb2 HR
  go_wp2_with fail
  refine HK.out.mono ?_
  rintro e w3 ⟨k, us, fq, l3, b3, rfl, ho3, hn3, hr3, hg3, hp3, ht3, -⟩
  have HZ3 := hide (HZ2.out.grown hg3 (fun e => by injection e with e; omega))
  have HB3 := hide (HB2.out.trans (below_of_grown hg3 (by omega) HB2.out.size))
  have HT3 := hide ht3
  have hkb : k.bulk ≤ 10000 := by have := hp3.2.1; rw [bl_len] at this; omega
  obtain ⟨B1, d1, B2, d2, f1, f2, rfl, k0, k1, k2, efq⟩ := ho3.oKind
  obtain ⟨rest, hrow, hsz, hl3⟩ := hr3
  have HO3 := hide ho3
  have HN3 := hide (hn3.mono (show w.heap.size + 1 ≤ w2.heap.size from by omega))
  have HRow := hide hrow
  have HL3 := hide hl3
  have HPD := hide hp3
  go_upto_region 5 with fail
  generalize hw4 : w3.alloc _ = w4
  have hb4 : Below w3.heap.size w3 w4 := by rw [← hw4]; exact (Below.refl _ _).alloc (Nat.le_refl _) _
  have HBox := hide (show Row w4 w3.heap.size 38 [.int .i64 k.sort, .slice B1 k.names.length d1, .slice B2 k.kids.length d2] from by rw [← hw4]; exact Row.new w3 _ _)
  have HO4 := hide (HO3.out.below hb4 HN3.out.lt)
  have HN4 := hide (HN3.out.below hb4 HN3.out.lt)
  have HRow4 := hide (HRow.out.below hb4 HRow.out.lt)
  have HZ4 := hide (HZ3.out.below hb4 HZ3.out.lt)
  have HB4 := hide (HB3.out.trans (hb4.mono HB3.out.size))
  have r1 := HRow4.out.cell 1
  have r2 := HRow4.out.cell 0
  have rl := HRow4.out.lt
  have q0 := HBox.out.cell 0
  have q1 := HBox.out.cell 1
  have q2 := HBox.out.cell 2
  have ql := HBox.out.lt
  have z0 := HZ4.out.cell 0
  have z1 := HZ4.out.cell 1
  have z2 := HZ4.out.cell 2
  have y0 := HZ4.out.frozen 0
  have y1 := HZ4.out.frozen 1
  have y2 := HZ4.out.frozen 2
  have lz := HZ4.out.lt
  have HNONE := hide (fun (W : World) (hrow : Row W w.heap.size 38 [.int .i64 0, .slice none 0 0, .slice none 0 0]) (hb : Below w.heap.size w W) (h : readK s = none) => kr_none (w := w) (W := putN W w.heap.size 0 [.int .i64 0, .slice none 0 0, .slice none 0 0]) h (hb.trans (below_of_grown (setN_grown _ 0 (grown_refl W (some w.heap.size))) (Nat.le_refl _) hb.size)))
  clear hw4 hb4 ho3 hn3 hrow hl3 hp3 ht3 hg3 HZ3 HB3 HO3 HN3 HRow HK k1 k2 efq
  by_cases hbad : b3 = true
  · subst hbad
    have HNO := hide (readK_no HT3.out (fun h => by cases h.1))
    go_wp2
    refine bodyPost_ret (ret_row_tmp rfl _ _ w.heap.size 38 [.int .i64 0, .slice none 0 0, .slice none 0 0] (HZ4.out.setAll [.int .i64 0, .slice none 0 0, .slice none 0 0] rfl) _ _ rfl rfl Tryz.underlying38 rfl (by kernel_rfl)) rfl ?_
    exact HNONE.out _ HZ4.out HB4.out HNO.out
  obtain rfl : b3 = false := by simpa using hbad
  clear hbad
  have HNE := hide (show 0 < s.size from by have h := (HPD.out.2.2 rfl).1; rw [bl_len] at h; omega)
  by_cases hend : bl rest = []
  rotate_left
  · have HNO := hide (readK_no HT3.out (fun h => hend (HL3.out.symm.trans h.2.1)))
    obtain ⟨e1, e2⟩ := ne_lists (a := rest) (b := ⟨#[]⟩) hend
    have e3 : ¬ (rest.toList = []) := fun e => e1 (e.trans (by simp))
    have e4 : (rest.toList == []) = false := by simpa using e3
    clear hend
    go_wp2
    refine bodyPost_ret (ret_row_tmp rfl _ _ w.heap.size 38 [.int .i64 0, .slice none 0 0, .slice none 0 0] (HZ4.out.setAll [.int .i64 0, .slice none 0 0, .slice none 0 0] rfl) _ _ rfl rfl Tryz.underlying38 rfl (by kernel_rfl)) rfl ?_
    exact HNONE.out _ HZ4.out HB4.out HNO.out
  have e5 : rest = ByteArray.empty := bl_inj hend
  have HL0 := hide (show l3 = [] from by rw [HL3.out]; exact hend)
  clear hend
  subst e5
  have HKW := hide (implKindWrite_any k _ fq w4 HO4.out HN4.out.lt (by omega))
  go_wp2_with fail
  refine HKW.out.mono ?_
  rintro e w6 ⟨rfl, hb6⟩
  have HB6 := hide (HB4.out.trans (hb6.mono HB4.out.size))
  have HZ6 := hide (HZ4.out.below hb6 HZ4.out.lt)
  have HBox6 := hide (HBox.out.below hb6 HBox.out.lt)
  have HO6 := hide (HO4.out.below hb6 HN4.out.lt)
  have HN6 := hide (HN4.out.below hb6 HN4.out.lt)
  clear r1 r2 rl q0 q1 q2 ql z0 z1 z2 y0 y1 y2 lz HKW HB4 HZ4 HO4 HN4 HBox HRow4 hb6
  have q0 := HBox6.out.cell 0
  have q1 := HBox6.out.cell 1
  have q2 := HBox6.out.cell 2
  have ql := HBox6.out.lt
  have z0 := HZ6.out.cell 0
  have z1 := HZ6.out.cell 1
  have z2 := HZ6.out.cell 2
  have y0 := HZ6.out.frozen 0
  have y1 := HZ6.out.frozen 1
  have y2 := HZ6.out.frozen 2
  have lz := HZ6.out.lt
  by_cases htx : k.ok ∧ k.text = s
  rotate_left
  · have HNO := hide (readK_no HT3.out (fun h => htx ⟨h.2.2.1, h.2.2.2⟩))
    obtain ⟨e1, e2⟩ := ne_lists (a := k.written) (b := s) (fun h => by
      have h2 := bl_inj h
      by_cases hk : k.ok
      · rw [Kind.written_yes hk] at h2
        exact htx ⟨hk, h2⟩
      · rw [Kind.written_no hk] at h2
        have h3 := HNE.out
        rw [← h2] at h3
        exact absurd h3 (by decide))
    clear htx
    go_wp2
    refine bodyPost_ret (ret_row_tmp rfl _ _ w.heap.size 38 [.int .i64 0, .slice none 0 0, .slice none 0 0] (HZ6.out.setAll [.int .i64 0, .slice none 0 0, .slice none 0 0] rfl) _ _ rfl rfl Tryz.underlying38 rfl (by kernel_rfl)) rfl ?_
    exact HNONE.out _ HZ6.out HB6.out HNO.out
  have HYES := hide (readK_yes HT3.out htx.1 htx.2)
  obtain ⟨e1, e2⟩ := eq_lists (a := k.written) (b := s) (by rw [Kind.written_yes htx.1, htx.2])
  clear htx
  go_wp2
  refine bodyPost_ret (ret_row_tmp rfl _ _ w.heap.size 38 [.int .i64 k.sort, .slice B1 k.names.length d1, .slice B2 k.kids.length d2] (HZ6.out.setAll [.int .i64 k.sort, .slice B1 k.names.length d1, .slice B2 k.kids.length d2] rfl) _ _ rfl rfl Tryz.underlying38 rfl (by kernel_rfl)) rfl ?_
  have hgr := setN_grown [.int .i64 k.sort, .slice B1 k.names.length d1, .slice B2 k.kids.length d2] 0 (grown_refl w6 (some w.heap.size))
  have hno : w.heap.size ∉ fq := HN6.out.out (by omega)
  exact kr_some HYES.out (HO6.out.grown hgr HN6.out.lt hno) ((HN6.out.grown hgr (fun b e => by injection e with e; subst e; exact hno)).mono (by omega)) (HB6.out.trans (below_of_grown hgr (Nat.le_refl _) HB6.out.size))
end Go.Proofs.YtnaecdoeldoipaaGreatDoor
