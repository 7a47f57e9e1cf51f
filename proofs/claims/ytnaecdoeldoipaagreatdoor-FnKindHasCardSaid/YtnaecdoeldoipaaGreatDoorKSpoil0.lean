/-
  The draws of the reference: schemas. The draws of the reference: schemas that are ok, mostly. One element of a grown list is written anew, with other inner blocks.
-/
import Derived.Test.YtnaecdoeldoipaaGreatDoorKRdr
import Derived.Test.YtnaecdoeldoipaaGreatDoorKKid
import Derived.Test.YtnaecdoeldoipaaGreatDoorKDrawK0
set_option linter.unusedVariables false
set_option linter.unusedSimpArgs false
namespace Go.Proofs.YtnaecdoeldoipaaGreatDoor
open Go.ChangeShapes Go.WideShapes Go.ChangeAt Go.RowKit

def drawNames : List ByteArray := [⟨#[97]⟩, ⟨#[98]⟩, ⟨#[105, 100]⟩, ⟨#[108, 105, 115, 116]⟩, ⟨#[110]⟩, ⟨#[115, 117, 109]⟩, ⟨#[116, 97, 103]⟩, ⟨#[119, 104, 111]⟩]
theorem drawNames_le : ∀ x ∈ drawNames, x.size ≤ 4 := by
  intro x hx
  simp only [drawNames, List.mem_cons, List.not_mem_nil, or_false] at hx
  rcases hx with rfl | rfl | rfl | rfl | rfl | rfl | rfl | rfl <;> decide
def DN : Nat → Nat
  | 0 => 0
  | d + 1 => 24 + 4 * DN d
def DM : Nat → Nat
  | 0 => 1
  | d + 1 => 9 + 4 * DM d
def KDraw (g : Nat) (L : List UInt8) (k N M : Nat) (w : World) (e : Ending) (w' : World) : Prop :=
  ∃ (x : Kind) (us : List Value) (fq : List Nat) (k' : Nat), e = .returned (.agg us.toArray) ∧ OwC w' x.cells us fq ∧ New w' fq w.heap.size ∧ x.bulk ≤ N ∧ k' ≤ k + M ∧ RdD w' g L k' ∧ w.grownBy w' (some g)
theorem l5Names_any (w : World) : Calls Tryz.prog 110 #[] w fun e w' => e = .returned (.slice (some ⟨w.heap.size, 0, none⟩) 8 8) ∧ Row w' w.heap.size 9 (drawNames.map Value.string) ∧ Below w.heap.size w w' := by
  have HB := hide (show Below w.heap.size w (w.alloc (.cells (drawNames.map Value.string).toArray 9)) from (Below.refl _ _).alloc (Nat.le_refl _) _)
  go_enter Tryz.func110, Tryz.ntmps110
  go_wp2
  go_ret
  exact ⟨rfl, Row.new w _ _, HB.out⟩
structure FormD (d k g : Nat) (L : List UInt8) (w : World) (b nb c : Nat) (wr : World) (j : Nat) (v1 : Value) (ns : List ByteArray) (us1 : List Value) (v2 : Value) (ks : List Kind) (us2 : List Value) (fi2 : List Nat) (k' : Nat) : Prop where
  two : Two wr b c 38 (kindMk 5) 9 1 strC v1 ns us1 [] 38 3 Kind.cells v2 ks us2 fi2
  rd : RdD wr g L k'
  hk : ks.length ≤ 4
  hn : ns.length = ks.length
  bk : bulkStrs ns + ks.length + Kind.bulkS ks ≤ ks.length * (6 + DN (d - 1))
  pk : k' ≤ k + 1 + j + ks.length * DM (d - 1)
  gr : w.grownBy wr (some g)
  z : Row wr w.heap.size 38 [.int .i64 0, .slice none 0 0, .slice none 0 0]
  nm : Row wr nb 9 (drawNames.map Value.string)
  sz : c ≤ wr.heap.size
  hj : j ≤ 8
/-- the state with a name more than kids -/
structure FormN (k g : Nat) (L : List UInt8) (w : World) (b nb c : Nat) (wr : World) (v1 : Value) (ns : List ByteArray) (us1 : List Value) (v2 : Value) (ks : List Kind) (us2 : List Value) (fi2 : List Nat) (k' : Nat) : Prop where
  two : Two wr b c 38 (kindMk 5) 9 1 strC v1 ns us1 [] 38 3 Kind.cells v2 ks us2 fi2
  rd : RdD wr g L k'
  gr : w.grownBy wr (some g)
  z : Row wr w.heap.size 38 [.int .i64 0, .slice none 0 0, .slice none 0 0]
  nm : Row wr nb 9 (drawNames.map Value.string)
  sz : c ≤ wr.heap.size
theorem FormD.tick {d k g : Nat} {L : List UInt8} {w : World} {b nb c : Nat} {wr w5 : World} {j : Nat} {v1 : Value} {ns : List ByteArray} {us1 : List Value} {v2 : Value} {ks : List Kind} {us2 : List Value} {fi2 : List Nat} {k' : Nat}
    (h : FormD d k g L w b nb c wr j v1 ns us1 v2 ks us2 fi2 k') (hg : wr.grownBy w5 (some g)) (hr : RdD w5 g L (k' + 1)) (hgw : g < w.heap.size) (hwb : w.heap.size < b) (hbn : b < nb) (hj : j < 8) :
    FormD d k g L w b nb c w5 (j + 1) v1 ns us1 v2 ks us2 fi2 (k' + 1) :=
  ⟨h.two.far hg (by omega), hr, h.hk, h.hn, h.bk, by have := h.pk; omega, only_trans h.gr hg, h.z.grown hg (fun e => by injection e with e; omega), h.nm.grown hg (fun e => by injection e with e; omega), Nat.le_trans h.sz hg.size, hj⟩
theorem FormD.fin {d k g : Nat} {L : List UInt8} {w : World} {b nb c : Nat} {wr : World} {j : Nat} {v1 : Value} {ns : List ByteArray} {us1 : List Value} {v2 : Value} {ks : List Kind} {us2 : List Value} {fi2 : List Nat} {k' : Nat}
    (h : FormD d k g L w b nb c wr j v1 ns us1 v2 ks us2 fi2 k') (hd : 24 + 4 * DN (d - 1) = DN d ∧ 9 + 4 * DM (d - 1) = DM d) : (Kind.mk 5 ns ks).bulk ≤ DN d ∧ k' ≤ k + DM d := by
  have h1 := Nat.mul_le_mul_right (6 + DN (d - 1)) h.hk
  have h2 := Nat.mul_le_mul_right (DM (d - 1)) h.hk
  have h3 := h.bk
  have h4 := h.pk
  have h5 := h.hj
  rw [Kind.bulk_form]
  omega
theorem FormD.more {d k g : Nat} {L : List UInt8} {w : World} {b nb c : Nat} {wr w2 : World} {j : Nat} {v1 v1' : Value} {ns : List ByteArray} {us1 us1' : List Value} {v2 v2' : Value} {ks : List Kind} {us2 us2' : List Value} {fi2 fi2' : List Nat} {k' k2 : Nat} {x : ByteArray} {y : Kind}
    (h : FormD d k g L w b nb c wr j v1 ns us1 v2 ks us2 fi2 k') (h4 : ks.length < 4) (hx : x.size ≤ 4) (hy : y.bulk ≤ DN (d - 1)) (hk : k2 ≤ k' + DM (d - 1))
    (hN : FormN k g L w b nb c w2 v1' (ns ++ [x]) us1' v2' (ks ++ [y]) us2' fi2' k2) :
    FormD d k g L w b nb c w2 j v1' (ns ++ [x]) us1' v2' (ks ++ [y]) us2' fi2' k2 := by
  have h3 := h.bk
  have h5 := h.pk
  have hl : (ks ++ [y]).length = ks.length + 1 := by simp
  refine ⟨hN.two, hN.rd, by omega, by rw [hl, List.length_append, h.hn]; rfl, ?_, ?_, hN.gr, hN.z, hN.nm, hN.sz, h.hj⟩
  · rw [bulkStrs_snoc, kbulkS_snoc, hl, Nat.succ_mul]
    omega
  · rw [hl, Nat.succ_mul]
    omega
theorem kform_owC {wr : World} {b c : Nat} {s : Int} {v1 v2 : Value} {l1 : List ByteArray} {us1 : List Value} {l2 : List Kind} {us2 : List Value} {fi2 : List Nat} (hT : Two wr b c 38 (kindMk s) 9 1 strC v1 l1 us1 [] 38 3 Kind.cells v2 l2 us2 fi2) (hs : (Lit.int .i64 s).wf = true) :
    ∃ fq, OwC wr (Kind.mk s l1 l2).cells (kindMk s v1 v2) fq ∧ New wr fq c := by
  obtain ⟨p1, p2, o1, o2, hn⟩ := hT.toOw
  exact ⟨p1 ++ p2, OwC.mKind (x := Kind.mk s l1 l2) hs o1 o2, hn⟩
theorem RdD.drewN {w : World} {g : Nat} {L : List UInt8} {k : Nat} (h : RdD w g L k) (n : Nat) : RdD (w.drewN n) g L k := h.below ⟨rfl, rfl, rfl, Nat.le_refl _, fun _ _ => rfl⟩
def DKind (d : Nat) : Prop := ∀ (L : List UInt8) (k g : Nat) (top : Bool) (w : World), RdD w g L k → k + DM d ≤ 100000000 →
  Calls Tryz.prog 107 #[.pointer (some ⟨g, 0, none⟩), .int .i64 (d : Int), .bool top] w (KDraw g L k (DN d) (DM d) w)
set_option maxRecDepth 100000 in
set_option maxHeartbeats 4000000 in
theorem dKind_of (d : Nat) (hd1 : 1 ≤ d) (hd4 : d ≤ 4) (ih : 1 < d → DKind (d - 1)) : DKind d := by
  intro L k g top w h hk
  have hgw := h.lt
  have HR0 := hide h
  have HIH := hide ih
  have HEND := hide (fun (W : World) (x : Kind) (vs : List Value) (fq : List Nat) (k' : Nat) (ho : OwC W x.cells vs fq) (hn : New W fq (w.heap.size + 1)) (hx : x.bulk ≤ DN d) (hk' : k' ≤ k + DM d) (hr : RdD W g L k') (hg : w.grownBy W (some g)) =>
    show KDraw g L k (DN d) (DM d) w (.returned (.agg vs.toArray)) (putN W w.heap.size 0 vs) from by
      have hgr := setN_grown vs 0 (grown_refl W (some w.heap.size))
      have hno : w.heap.size ∉ fq := hn.out (by omega)
      have hb : Below w.heap.size W (putN W w.heap.size 0 vs) := below_of_grown hgr (Nat.le_refl _) hg.size
      exact ⟨x, vs, fq, k', rfl, ho.grown hgr hn.lt hno, (hn.grown hgr (fun b e => by injection e with e; subst e; exact hno)).mono (by omega), hx, hk', hr.low hb hgw, only_low hg hb (Nat.le_refl _)⟩)
  clear h ih
  go_enter Tryz.func107, Tryz.ntmps107
  go_upto_region 1 with fail
  generalize hw1 : w.alloc _ = w1
  have hb0 : Below w.heap.size w w1 := by rw [← hw1]; exact (Below.refl _ _).alloc (Nat.le_refl _) _
  have HZ := hide (show Row w1 w.heap.size 38 [.int .i64 0, .slice none 0 0, .slice none 0 0] from by rw [← hw1]; exact Row.new w _ _)
  have HR := hide (HR0.out.below hb0)
  have HG := hide (grownBy_below hb0 (some g))
  have HP := hide (pick_any HR.out (n := 10) (by omega) (by omega) (by omega))
  clear hw1 hb0 HR0
  go_wp2_with fail
  refine HP.out.mono ?_
  rintro e w2 ⟨n, rfl, hn, h2, hg2⟩
  have HR2 := hide h2
  have HG2 := hide (only_trans HG.out hg2)
  have HZ2 := hide (HZ.out.grown hg2 (fun e => by injection e with e; omega))
  clear h2 hg2 HP HR HG HZ
  have HDN := hide (show 24 + 4 * DN (d - 1) = DN d ∧ 9 + 4 * DM (d - 1) = DM d from by
    obtain ⟨d', rfl⟩ : ∃ d', d = d' + 1 := ⟨d - 1, by omega⟩
    exact ⟨rfl, rfl⟩)
  go_upto_region 2 with fail
  go_cut [14] from 13 to 15 (fun s14 wx => s14 = .bool (decide ((d : Int) ≤ 1)) ∧ w2 = wx)
  case first =>
    go_wp2_with fail
    go_meet
    exact ⟨rfl, rfl⟩
  obtain ⟨rfl, rfl⟩ := hcut
  rename_i aK
  refine aK _ _ ?_
  go_cut [7] from 15 to 17 (fun s7 wx => ∃ m : Nat, s7 = .int .i64 (m : Int) ∧ (m ≤ 4 ∨ 1 < d) ∧ m < 10 ∧ w2 = wx)
  case first =>
    by_cases hd : d = 1
    · have hdi : (d : Int) ≤ 1 := by omega
      obtain ⟨m, hm⟩ : ∃ m : Nat, n % 5 = m := ⟨_, rfl⟩
      have hm5 : Int.tmod (n : Int) 5 = (m : Int) := by rw [← hm]; exact (Int.ofNat_tmod _ _).symm
      have hmd : m ≤ 4 ∨ 1 < d := by omega
      have hm10 : m < 10 := by omega
      clear hm
      go_wp2_with fail
      go_meet
      exact ⟨m, rfl, hmd, hm10, rfl⟩
    · have hdi : ¬ ((d : Int) ≤ 1) := by omega
      go_wp2_with fail
      go_meet
      exact ⟨n, rfl, by omega, hn, rfl⟩
  case rest =>
    obtain ⟨m, rfl, hmd, hm10, rfl⟩ := hcut
    generalize decide ((d : Int) ≤ 1) = bd
    clear hn
    go_upto_region 4 with fail
    have HIK := hide (fun (h1 : 1 < d) (W : World) (k' : Nat) (hr : RdD W g L k') (hk' : k' + DM (d - 1) ≤ 100000000) => show Calls Tryz.prog 107 #[.pointer (some ⟨g, 0, none⟩), .int .i64 ((d : Int) - 1), .bool false] W (KDraw g L k' (DN (d - 1)) (DM (d - 1)) W) from by
      have h := HIH.out h1 L k' g false W hr hk'
      rw [show ((d - 1 : Nat) : Int) = (d : Int) - 1 by omega] at h
      exact h)
    by_cases hf : top = true ∨ 7 < m
    · go_cut [17] from 17 to 23 (fun s17 wx => s17 = .bool true ∧ w2 = wx)
      case first =>
        by_cases ht : top = true
        · subst ht
          go_wp2_with fail
          go_meet
          exact ⟨rfl, rfl⟩
        · obtain rfl : top = false := by
            rcases htt : top with _ | _
            · rfl
            · exact absurd htt ht
          have h7 : (7 : Int) < (m : Int) := by
            rcases hf with h | h
            · exact absurd h (by decide)
            · omega
          go_wp2_with fail
          go_meet
          exact ⟨rfl, rfl⟩
      obtain ⟨rfl, rfl⟩ := hcut
      clear hf hmd hm10
      obtain ⟨ia, hia, ha0, ha1, ha2⟩ := info_parts info_string
      obtain ⟨ib, hib, hb0, hb1, hb2⟩ := info_parts info_Kind'
      have HIa := hide hia
      have HIb := hide hib
      clear hia hib
      go_upto_region 6 with fail
      generalize hw3 : World.alloc _ _ = w3
      have hbA : Below w2.heap.size w2 w3 := by rw [← hw3]; exact (Below.refl _ _).alloc (Nat.le_refl _) _
      have HB3 := hide (show Row w3 w2.heap.size 38 (kindMk 5 (.slice none 0 0) (.slice none 0 0)) from by rw [← hw3]; exact Row.new w2 _ _)
      have HR3 := hide (HR2.out.below hbA)
      have HG3 := hide (only_low HG2.out hbA (Nat.le_of_lt HZ2.out.lt))
      have HZ3 := hide (HZ2.out.below hbA HZ2.out.lt)
      have hbw : w.heap.size < w2.heap.size := HZ2.out.lt
      have hbn : w2.heap.size < w3.heap.size := HB3.out.lt
      clear hw3 hbA HR2 HG2 HZ2
      have HLN := hide (l5Names_any w3)
      go_wp2_with fail
      refine HLN.out.mono ?_
      rintro e w4 ⟨rfl, hnr, hb4⟩
      have hnc : w3.heap.size < w4.heap.size := hnr.lt
      have HF4 := hide (show FormD d k g L w w2.heap.size w3.heap.size w4.heap.size w4 0 (.slice none 0 0) [] [] (.slice none 0 0) [] [] [] (k + 1) from
        ⟨⟨HB3.out.below hb4 HB3.out.lt, OwS.nil _ _ _ _ _, OwS.nil _ _ _ _ _, Nat.lt_trans hbn hnc, fun g h => (by cases h), fun g h => (by cases h), fun g h => (by cases h), fun g h => (by cases h)⟩,
          HR3.out.below hb4, Nat.zero_le _, rfl, by simp [bulkStrs, Kind.bulkS, bulkStr], by simp, only_low HG3.out hb4 (by omega), HZ3.out.below hb4 (by omega), hnr, Nat.le_refl _, Nat.zero_le _⟩)
      clear hnr hb4 HB3 HR3 HG3 HZ3 HLN
      go_wp2_with fail
      go_loopw [10] (fun i wr => ∃ (j : Nat) (ns : List ByteArray) (ks : List Kind) (B1 : Option Addr) (m1 d1 : Nat) (us1 : List Value) (B2 : Option Addr) (m2 d2 : Nat) (us2 : List Value) (fi2 : List Nat) (k' : Nat), i = .int .i64 (j : Int) ∧ FormD d k g L w w2.heap.size w3.heap.size w4.heap.size wr j (.slice B1 m1 d1) ns us1 (.slice B2 m2 d2) ks us2 fi2 k') (fun i _ => 8 - (intOf i).toNat)
      case atStart => exact ⟨0, [], [], none, 0, 0, [], none, 0, 0, [], [], k + 1, rfl, HF4.out⟩
      case round =>
        obtain ⟨j, ns, ks, B1, m1, d1, us1, B2, m2, d2, us2, fi2, k', rfl, hF⟩ := hrel
        obtain ⟨E1, e1, hv1⟩ := hF.two.one.form
        obtain ⟨E2, e2, hv2⟩ := hF.two.two.form
        injection hv1 with hv1a hv1b hv1c
        injection hv2 with hv2a hv2b hv2c
        subst hv1a hv1b hv1c hv2a hv2b hv2c
        have HF := hide hF
        have t2 : wr.cell? ⟨w2.heap.size, 2, none⟩ = some (.slice B2 ks.length d2) := hF.two.box.cell 2
        have lb := hF.two.box.lt
        have hpk := hF.pk
        have hk4 := hF.hk
        have hj8 := hF.hj
        clear hF HF4
        by_cases hjk : j < 8 ∧ ks.length < 4
        · obtain ⟨hj, hkl⟩ := hjk
          have hji : (j : Int) < 8 := by omega
          have hki : (ks.length : Int) < 4 := by omega
          have h3m := Nat.mul_le_mul_right (DM (d - 1)) (show ks.length ≤ 3 by omega)
          have hkM : k' + 1 + DM (d - 1) ≤ k + DM d := by have := HDN.out.2; omega
          have HP := hide (pick_any HF.out.rd (n := 3) (by omega) (by omega) (by omega))
          go_upto_region 10 with fail
          go_cut [43] from 37 to 44 (fun s43 wx => ∃ b : Bool, s43 = .bool b ∧ (b = true → 1 < d) ∧ FormD d k g L w w2.heap.size w3.heap.size w4.heap.size wx (j + 1) (.slice B1 ns.length d1) ns us1 (.slice B2 ks.length d2) ks us2 fi2 (k' + 1))
          case first =>
            go_wp2_with fail
            refine HP.out.mono ?_
            rintro e w5 ⟨r3, rfl, hr3, h5, hg5⟩
            have HFN := hide (HF.out.tick hg5 h5 hgw hbw hbn hj)
            clear h5 hg5
            by_cases h0 : r3 = 0
            · subst h0
              go_wp2_with fail
              go_meet
              exact ⟨_, rfl, (fun h => by have := of_decide_eq_true h; omega), HFN.out⟩
            · have h0i : ¬ ((r3 : Int) = 0) := by omega
              go_wp2_with fail
              go_meet
              exact ⟨false, rfl, (fun h => by cases h), HFN.out⟩
          case rest =>
            obtain ⟨bb, rfl, hb1, hF5⟩ := hcut
            have HF5 := hide hF5
            clear HP HF t2 lb hF5
            rcases bb with _ | _
            · clear hb1
              go_wp2
              go_roundw
              case rel => exact ⟨j + 1, ns, ks, B1, _, d1, us1, B2, _, d2, us2, fi2, k' + 1, by go_num, HF5.out⟩
              case measure => simp [intOf]; omega
            · have h1 := hb1 rfl
              clear hb1
              obtain ⟨nm, hnm⟩ : ∃ x, drawNames[j]? = some x := ⟨_, List.getElem?_eq_getElem (show j < drawNames.length from hj)⟩
              have hs4 : nm.size ≤ 4 := drawNames_le nm (List.mem_of_getElem? hnm)
              have n1 : wc.cell? ⟨w3.heap.size, j, none⟩ = some (.string nm) := by rw [HF5.out.nm.cell j, List.getElem?_map, hnm]; rfl
              have n2 := HF5.out.nm.lt
              have t1 : wc.cell? ⟨w2.heap.size, 1, none⟩ = some (.slice B1 ns.length d1) := HF5.out.two.box.cell 1
              have lb := HF5.out.two.box.lt
              have hnl : ns.length ≤ 4 := by have := HF5.out.hn; omega
              have hszc : w4.heap.size ≤ wc.heap.size := HF5.out.sz
              have HT2 := hide ((HF5.out.two.drewN 1).alloc (.cells #[.string nm] 9))
              have HSZ := hide (show w4.heap.size ≤ ((wc.drewN 1).alloc (.cells #[.string nm] 9)).heap.size by rw [World.size_alloc]; exact Nat.le_succ_of_le hszc)
              have HDS := hide (fun W => show OwC W ([nm].flatMap strC) [.string nm] [] from ⟨[], [], ⟨rfl, show nm.size ≤ maxLen by (unfold maxLen; omega), rfl⟩, rfl, rfl⟩)
              clear hnm
              go_upto_region 11 with fail
              go_cut [] from 44 to 53 (fun wx => ∃ (C1 : Option Addr) (p1 q1 : Nat) (us1' : List Value), FormN k g L w w2.heap.size w3.heap.size w4.heap.size wx (.slice C1 p1 q1) (ns ++ [nm]) us1' (.slice B2 ks.length d2) ks us2 fi2 (k' + 1))
              case first =>
                go_region_law (first | (refine step_app (by rfl) _ _ 23 (by rfl) ia _ 16 Tryz.underlying23 HIa.out ha0 ha1 ha2 rfl (by decide) strC_len (by rfl) HT2.out.one [nm] (HDS.out _) (by exact New.nil _ _) (fun g _ hg => by cases hg) _ 1 1 (by rfl) rfl (SrcAt.new (wc.drewN 1) _ _ _ _) (by omega) (by decide) HSZ.out ?_; intro A' n' c' w5 hn5 hown5 hgb5; have HG5 := hide hgb5; have HN5 := hide hown5; have r5 := HT2.out.row1 hgb5; have q5 : w5.cell? ⟨w2.heap.size, 1, none⟩ = some (.slice B1 ns.length d1) := r5.cell 1; have f5 : w5.frozen? ⟨w2.heap.size, 1, none⟩ = false := r5.frozen 1; have HNN5 := hide hn5; clear hown5 hgb5 r5 hn5))
                all_goals
                  have HTP := hide (HT2.out.put1 HG5.out HN5.out 1 rfl (fun g hg => by cases hg))
                  have hfr : ∀ u, Below w2.heap.size wc (w5.setCell ⟨w2.heap.size, 1, none⟩ u) := fun u => ((below_drewN (Below.refl _ wc) 1).alloc (by show w2.heap.size ≤ wc.heap.size; omega) _).trans (HT2.out.frame1 HG5.out HSZ.out 1 u (Nat.le_refl _))
                  go_wp2_with fail
                  go_meet
                  exact ⟨A', n', c', us1 ++ [.string nm], HTP.out, HF5.out.rd.low (hfr _) (by omega), only_low HF5.out.gr (hfr _) (by omega), HF5.out.z.below (hfr _) hbw, Row.far (p := ⟨w2.heap.size, 1, none⟩) (HG5.out.row ((HF5.out.nm.drewN 1).alloc _) (HT2.out.one.low hnc)) (Nat.ne_of_gt hbn) _, Nat.le_trans hszc (hfr (.slice A' n' c')).size⟩
              case rest =>
                clear t1 lb HT2 HSZ HDS n1 n2 hszc
                obtain ⟨w6, rfl⟩ : ∃ W, W = wc := ⟨_, rfl⟩
                obtain ⟨C1, p1, q1, us1', hN⟩ := hcut
                have HN := hide hN
                have t2 : w6.cell? ⟨w2.heap.size, 2, none⟩ = some (.slice B2 ks.length d2) := hN.two.box.cell 2
                have lb6 := hN.two.box.lt
                have hsz6 : w4.heap.size ≤ w6.heap.size := hN.sz
                have hd1i : IntKind.i64.wrap ((d : Int) - 1) = (d : Int) - 1 := wrapI _ (by omega) (by omega)
                have HKB := hide (show k' + 1 + DM (d - 1) ≤ 100000000 by omega)
                clear hN
                go_wp2
                go_region_law (first | (refine step_app (by rfl) _ _ 36 (by rfl) ib _ 56 Tryz.underlying36 HIb.out hb0 hb1 hb2 rfl (by decide) Kind.cells_len (by rfl) HT8.out.two [x] HXO.out HNA.out HNO.out _ 1 1 (by rfl) rfl (SrcAt.new w7 _ _ _ _) HLB.out (by decide) HSB.out ?_; intro A' n' c' w9 hn9 hown9 hgb9; have HG9 := hide hgb9; have HN9 := hide hown9; have r9 := HT8.out.row2 hgb9; have q9 : w9.cell? ⟨w2.heap.size, 2, none⟩ = some (.slice B2 ks.length d2) := r9.cell 2; have f9 : w9.frozen? ⟨w2.heap.size, 2, none⟩ = false := r9.frozen 2; have HNN9 := hide hn9; clear hown9 hgb9 r9 hn9) | (go_simp; go_at_call 107; have hh := HIK.out h1 w6.drew (k' + 1) (HN.out.rd.drewN 1) HKB.out; refine hh.mono ?_; clear hh; rintro e w7 ⟨x, us7, fq7, k7, rfl, ho7, hn7, hx7, hk7, hr7, hg7⟩; have HO7 := hide ho7; have HX7 := hide hx7; have HK7 := hide hk7; have HR7 := hide hr7; have HGG7 := hide (only_trans (only_drewN HN.out.gr 1) hg7); have HZ7 := hide ((HN.out.z.drewN 1).grown hg7 (fun e => by injection e with e; omega)); have HM7 := hide ((HN.out.nm.drewN 1).grown hg7 (fun e => by injection e with e; omega)); have hs7 : w6.heap.size ≤ w7.heap.size := hg7.size; have hn7' : New w7 fq7 w6.heap.size := hn7; have HN7 := hide hn7'; obtain ⟨E1, e1, E2, e2, g1, g2, rfl, k0, k1, k2, efq⟩ := ho7.oKind; have HT7 := hide ((HN.out.two.drewN 1).far hg7 (by omega)); have t2c : w7.cell? ⟨w2.heap.size, 2, none⟩ = some (.slice B2 ks.length d2) := HT7.out.box.cell 2; have lt7 := HT7.out.box.lt; have HT8 := hide (HT7.out.alloc (.cells #[.int .i64 x.sort, .slice E1 x.names.length e1, .slice E2 x.kids.length e2] 38)); have HO8 := hide (HO7.out.alloc HN7.out.lt (.cells #[.int .i64 x.sort, .slice E1 x.names.length e1, .slice E2 x.kids.length e2] 38)); have HNA := hide (show New (w7.alloc (.cells #[.int .i64 x.sort, .slice E1 x.names.length e1, .slice E2 x.kids.length e2] 38)) (fi2 ++ fq7) w4.heap.size from New.app HT8.out.two.new (HN7.out.alloc _) HN.out.two.two.new.lt hsz6); have HXO := hide (show OwC (w7.alloc (.cells #[.int .i64 x.sort, .slice E1 x.names.length e1, .slice E2 x.kids.length e2] 38)) ([x].flatMap Kind.cells) [.int .i64 x.sort, .slice E1 x.names.length e1, .slice E2 x.kids.length e2] fq7 from by rw [List.flatMap_singleton]; exact HO8.out); have HNO := hide (show ∀ g, (Value.slice B2 ks.length d2).ownBlock = some g → g ∉ fq7 from fun g e hm => absurd (HN.out.two.two.lt g e) (Nat.not_lt.2 (HN7.out.fr g hm).1)); have HLB := hide (show ks.length + 1 ≤ 1099511627776 from by omega); have HSB := hide (show w4.heap.size ≤ (w7.alloc (.cells #[.int .i64 x.sort, .slice E1 x.names.length e1, .slice E2 x.kids.length e2] 38)).heap.size from by rw [World.size_alloc]; omega); clear ho7 hn7 hn7' hx7 hk7 hr7 hg7 k1 k2 efq))
                all_goals
                  have hfr : ∀ u, Below w2.heap.size w7 (w9.setCell ⟨w2.heap.size, 2, none⟩ u) := fun u => ((Below.refl w2.heap.size w7).alloc (by omega) _).trans (HT8.out.frame2 HG9.out HSB.out 2 u (Nat.le_refl _))
                  have HFM := hide (fun W (hW : W = w9.setCell ⟨w2.heap.size, 2, none⟩ (.slice A' n' c')) => show FormD d k g L w w2.heap.size w3.heap.size w4.heap.size W (j + 1) (.slice C1 p1 q1) (ns ++ [nm]) us1' (.slice A' n' c') (ks ++ [x]) (us2 ++ [.int .i64 x.sort, .slice E1 x.names.length e1, .slice E2 x.kids.length e2]) (fi2 ++ fq7) k7 from by
                    subst hW
                    refine HF5.out.more hkl hs4 HX7.out HK7.out ⟨HT8.out.put2 HG9.out HN9.out 2 rfl (fun g hg => ?_), HR7.out.low (hfr _) (by omega), only_low HGG7.out (hfr _) (by omega), HZ7.out.below (hfr _) hbw, Row.far (p := ⟨w2.heap.size, 2, none⟩) (HG9.out.row (HM7.out.alloc _) (HT8.out.two.low hnc)) (Nat.ne_of_gt hbn) _, Nat.le_trans (Nat.le_trans hsz6 hs7) (hfr (.slice A' n' c')).size⟩
                    rcases List.mem_append.1 hg with hg | hg
                    · exact .inl hg
                    · exact .inr ⟨fun e => absurd (HN.out.two.one.lt g e) (Nat.not_lt.2 (HN7.out.fr g hg).1), fun h => by cases h⟩)
                  clear hfr
                  go_wp2
                  go_roundw
                  case rel => exact ⟨j + 1, ns ++ [nm], ks ++ [x], C1, p1, q1, us1', A', n', c', _, _, k7, by go_num, HFM.out _ rfl⟩
                  case measure => simp [intOf]; omega
        · have q0 : wr.cell? ⟨w2.heap.size, 0, none⟩ = some (.int .i64 5) := HF.out.two.box.cell 0
          have q1 : wr.cell? ⟨w2.heap.size, 1, none⟩ = some (.slice B1 ns.length d1) := HF.out.two.box.cell 1
          have z0 := HF.out.z.cell 0
          have y0 := HF.out.z.frozen 0
          have z1 := HF.out.z.cell 1
          have y1 := HF.out.z.frozen 1
          have z2 := HF.out.z.cell 2
          have y2 := HF.out.z.frozen 2
          have lz := HF.out.z.lt
          by_cases hj : j < 8
          case' pos =>
            have hji : (j : Int) < 8 := by omega
            have hki : ¬ ((ks.length : Int) < 4) := by omega
          case' neg =>
            have hji : ¬ ((j : Int) < 8) := by omega
          all_goals
            go_wp2
            obtain ⟨fq, ho, hnw⟩ := kform_owC HF.out.two (by decide)
            refine bodyPost_ret (ret_row rfl _ _ w.heap.size 38 (kindMk 5 (.slice B1 ns.length d1) (.slice B2 ks.length d2)) (HF.out.z.setAll (kindMk 5 (.slice B1 ns.length d1) (.slice B2 ks.length d2)) rfl) _ rfl Tryz.underlying38 rfl (by kernel_rfl)) rfl ?_
            exact HEND.out wr (.mk 5 ns ks) _ fq k' ho (hnw.mono (by omega)) (HF.out.fin HDN.out).1 (HF.out.fin HDN.out).2 HF.out.rd HF.out.gr
    obtain rfl : top = false := by
      rcases ht : top with _ | _
      · rfl
      · exact absurd (.inl ht) hf
    have h7 : ¬ ((7 : Int) < (m : Int)) := fun h => hf (.inr (by omega))
    clear hf
    by_cases h6 : 6 < m
    · have i6 : (6 : Int) < (m : Int) := by omega
      have hd1' : 1 < d := by omega
      have HC := hide (HIK.out hd1' w2 (k + 1) HR2.out (by have := HDN.out.2; omega))
      go_wp2_with fail
      refine HC.out.mono ?_
      rintro e w4 ⟨x, us, fq, k4, rfl, ho4, hn4, hx4, hk4, hr4, hg4⟩
      have HO4 := hide ho4
      have HN4 := hide (hn4.mono (show w.heap.size + 1 ≤ w2.heap.size from HZ2.out.lt))
      have HR4 := hide hr4
      have HG4 := hide (only_trans HG2.out hg4)
      have HZ4 := hide (HZ2.out.grown hg4 (fun e => by injection e with e; omega))
      obtain ⟨B1, d1, B2, d2, f1, f2, rfl, k0, k1, k2, efq⟩ := ho4.oKind
      clear ho4 hn4 hr4 hg4 k1 k2 efq HC
      have z0 := HZ4.out.cell 0
      have y0 := HZ4.out.frozen 0
      have z1 := HZ4.out.cell 1
      have y1 := HZ4.out.frozen 1
      have z2 := HZ4.out.cell 2
      have y2 := HZ4.out.frozen 2
      have lz := HZ4.out.lt
      go_wp2
      have hRow := Row.new w4 38 [.int .i64 x.sort, .slice B1 x.names.length d1, .slice B2 x.kids.length d2]
      have ho5 := kone_ow (s := 6) (by decide) (HO4.out.alloc HN4.out.lt (.cells #[.int .i64 x.sort, .slice B1 x.names.length d1, .slice B2 x.kids.length d2] 38)) w4.heap.size hRow
      have hn5 : New (w4.alloc (.cells #[.int .i64 x.sort, .slice B1 x.names.length d1, .slice B2 x.kids.length d2] 38)) (w4.heap.size :: fq) (w.heap.size + 1) := (HN4.out.alloc _).consHi (fun hm => Nat.lt_irrefl _ (HN4.out.lt _ hm)) lz (Unf.row hRow) hRow.lt
      have hfin := HEND.out (w4.alloc (.cells #[.int .i64 x.sort, .slice B1 x.names.length d1, .slice B2 x.kids.length d2] 38)) (.mk 6 [] [x]) [.int .i64 6, .slice none 0 0, .slice (some ⟨w4.heap.size, 0, none⟩) 1 1] _ k4 ho5 hn5 (by rw [Kind.bulk_one]; have := HDN.out.1; omega) (by have := HDN.out.2; omega) (HR4.out.below ((Below.refl _ _).alloc (Nat.le_refl _) _)) (only_alloc HG4.out _)
      rw [putN_alloc _ _ _ _ lz] at hfin
      refine bodyPost_ret (ret_row rfl _ _ w.heap.size 38 [.int .i64 6, .slice none 0 0, .slice (some ⟨w4.heap.size, 0, none⟩) 1 1] ((HZ4.out.setAll [.int .i64 6, .slice none 0 0, .slice (some ⟨w4.heap.size, 0, none⟩) 1 1] rfl).alloc _) _ rfl Tryz.underlying38 rfl (by kernel_rfl)) rfl ?_
      exact hfin
    have i6 : ¬ ((6 : Int) < (m : Int)) := by omega
    by_cases h4 : 4 < m
    · have i4 : (4 : Int) < (m : Int) := by omega
      have hd1' : 1 < d := by omega
      have HC := hide (HIK.out hd1' w2 (k + 1) HR2.out (by have := HDN.out.2; omega))
      go_wp2_with fail
      refine HC.out.mono ?_
      rintro e w4 ⟨x, us, fq, k4, rfl, ho4, hn4, hx4, hk4, hr4, hg4⟩
      have HO4 := hide ho4
      have HN4 := hide (hn4.mono (show w.heap.size + 1 ≤ w2.heap.size from HZ2.out.lt))
      have HR4 := hide hr4
      have HG4 := hide (only_trans HG2.out hg4)
      have HZ4 := hide (HZ2.out.grown hg4 (fun e => by injection e with e; omega))
      obtain ⟨B1, d1, B2, d2, f1, f2, rfl, k0, k1, k2, efq⟩ := ho4.oKind
      clear ho4 hn4 hr4 hg4 k1 k2 efq HC
      have z0 := HZ4.out.cell 0
      have y0 := HZ4.out.frozen 0
      have z1 := HZ4.out.cell 1
      have y1 := HZ4.out.frozen 1
      have z2 := HZ4.out.cell 2
      have y2 := HZ4.out.frozen 2
      have lz := HZ4.out.lt
      go_wp2
      have hRow := Row.new w4 38 [.int .i64 x.sort, .slice B1 x.names.length d1, .slice B2 x.kids.length d2]
      have ho5 := kone_ow (s := 4) (by decide) (HO4.out.alloc HN4.out.lt (.cells #[.int .i64 x.sort, .slice B1 x.names.length d1, .slice B2 x.kids.length d2] 38)) w4.heap.size hRow
      have hn5 : New (w4.alloc (.cells #[.int .i64 x.sort, .slice B1 x.names.length d1, .slice B2 x.kids.length d2] 38)) (w4.heap.size :: fq) (w.heap.size + 1) := (HN4.out.alloc _).consHi (fun hm => Nat.lt_irrefl _ (HN4.out.lt _ hm)) lz (Unf.row hRow) hRow.lt
      have hfin := HEND.out (w4.alloc (.cells #[.int .i64 x.sort, .slice B1 x.names.length d1, .slice B2 x.kids.length d2] 38)) (.mk 4 [] [x]) [.int .i64 4, .slice none 0 0, .slice (some ⟨w4.heap.size, 0, none⟩) 1 1] _ k4 ho5 hn5 (by rw [Kind.bulk_one]; have := HDN.out.1; omega) (by have := HDN.out.2; omega) (HR4.out.below ((Below.refl _ _).alloc (Nat.le_refl _) _)) (only_alloc HG4.out _)
      rw [putN_alloc _ _ _ _ lz] at hfin
      refine bodyPost_ret (ret_row rfl _ _ w.heap.size 38 [.int .i64 4, .slice none 0 0, .slice (some ⟨w4.heap.size, 0, none⟩) 1 1] ((HZ4.out.setAll [.int .i64 4, .slice none 0 0, .slice (some ⟨w4.heap.size, 0, none⟩) 1 1] rfl).alloc _) _ rfl Tryz.underlying38 rfl (by kernel_rfl)) rfl ?_
      exact hfin
    have i4 : ¬ ((4 : Int) < (m : Int)) := by omega
    have hm5 : m = 0 ∨ m = 1 ∨ m = 2 ∨ m = 3 ∨ m = 4 := by omega
    clear hmd hm10 h7 h6 i6 h4 i4
    have z0 := HZ2.out.cell 0
    have y0 := HZ2.out.frozen 0
    have z1 := HZ2.out.cell 1
    have y1 := HZ2.out.frozen 1
    have z2 := HZ2.out.cell 2
    have y2 := HZ2.out.frozen 2
    have lz := HZ2.out.lt
    rcases hm5 with rfl | rfl | rfl | rfl | rfl
    · go_wp2
      have hfin := HEND.out (w2.alloc (.cells #[.int .i64 1, .int .i64 1, .int .i64 2, .int .i64 2, .int .i64 3] 3)) (.mk 1 [] []) [.int .i64 1, .slice none 0 0, .slice none 0 0] [] (k + 1) (kleaf_ow _ 1 (by decide)) (New.nil _ _) (Nat.zero_le _) (by have := HDN.out.2; omega) (HR2.out.below ((Below.refl _ _).alloc (Nat.le_refl _) _)) (only_alloc HG2.out _)
      rw [putN_alloc _ _ _ _ lz] at hfin
      refine bodyPost_ret (ret_row rfl _ _ w.heap.size 38 [.int .i64 1, .slice none 0 0, .slice none 0 0] ((HZ2.out.setAll [.int .i64 1, .slice none 0 0, .slice none 0 0] rfl).alloc _) _ rfl Tryz.underlying38 rfl (by kernel_rfl)) rfl ?_
      exact hfin
    · go_wp2
      have hfin := HEND.out (w2.alloc (.cells #[.int .i64 1, .int .i64 1, .int .i64 2, .int .i64 2, .int .i64 3] 3)) (.mk 1 [] []) [.int .i64 1, .slice none 0 0, .slice none 0 0] [] (k + 1) (kleaf_ow _ 1 (by decide)) (New.nil _ _) (Nat.zero_le _) (by have := HDN.out.2; omega) (HR2.out.below ((Below.refl _ _).alloc (Nat.le_refl _) _)) (only_alloc HG2.out _)
      rw [putN_alloc _ _ _ _ lz] at hfin
      refine bodyPost_ret (ret_row rfl _ _ w.heap.size 38 [.int .i64 1, .slice none 0 0, .slice none 0 0] ((HZ2.out.setAll [.int .i64 1, .slice none 0 0, .slice none 0 0] rfl).alloc _) _ rfl Tryz.underlying38 rfl (by kernel_rfl)) rfl ?_
      exact hfin
    · go_wp2
      have hfin := HEND.out (w2.alloc (.cells #[.int .i64 1, .int .i64 1, .int .i64 2, .int .i64 2, .int .i64 3] 3)) (.mk 2 [] []) [.int .i64 2, .slice none 0 0, .slice none 0 0] [] (k + 1) (kleaf_ow _ 2 (by decide)) (New.nil _ _) (Nat.zero_le _) (by have := HDN.out.2; omega) (HR2.out.below ((Below.refl _ _).alloc (Nat.le_refl _) _)) (only_alloc HG2.out _)
      rw [putN_alloc _ _ _ _ lz] at hfin
      refine bodyPost_ret (ret_row rfl _ _ w.heap.size 38 [.int .i64 2, .slice none 0 0, .slice none 0 0] ((HZ2.out.setAll [.int .i64 2, .slice none 0 0, .slice none 0 0] rfl).alloc _) _ rfl Tryz.underlying38 rfl (by kernel_rfl)) rfl ?_
      exact hfin
    · go_wp2
      have hfin := HEND.out (w2.alloc (.cells #[.int .i64 1, .int .i64 1, .int .i64 2, .int .i64 2, .int .i64 3] 3)) (.mk 2 [] []) [.int .i64 2, .slice none 0 0, .slice none 0 0] [] (k + 1) (kleaf_ow _ 2 (by decide)) (New.nil _ _) (Nat.zero_le _) (by have := HDN.out.2; omega) (HR2.out.below ((Below.refl _ _).alloc (Nat.le_refl _) _)) (only_alloc HG2.out _)
      rw [putN_alloc _ _ _ _ lz] at hfin
      refine bodyPost_ret (ret_row rfl _ _ w.heap.size 38 [.int .i64 2, .slice none 0 0, .slice none 0 0] ((HZ2.out.setAll [.int .i64 2, .slice none 0 0, .slice none 0 0] rfl).alloc _) _ rfl Tryz.underlying38 rfl (by kernel_rfl)) rfl ?_
      exact hfin
    · go_wp2
      have hfin := HEND.out (w2.alloc (.cells #[.int .i64 1, .int .i64 1, .int .i64 2, .int .i64 2, .int .i64 3] 3)) (.mk 3 [] []) [.int .i64 3, .slice none 0 0, .slice none 0 0] [] (k + 1) (kleaf_ow _ 3 (by decide)) (New.nil _ _) (Nat.zero_le _) (by have := HDN.out.2; omega) (HR2.out.below ((Below.refl _ _).alloc (Nat.le_refl _) _)) (only_alloc HG2.out _)
      rw [putN_alloc _ _ _ _ lz] at hfin
      refine bodyPost_ret (ret_row rfl _ _ w.heap.size 38 [.int .i64 3, .slice none 0 0, .slice none 0 0] ((HZ2.out.setAll [.int .i64 3, .slice none 0 0, .slice none 0 0] rfl).alloc _) _ rfl Tryz.underlying38 rfl (by kernel_rfl)) rfl ?_
      exact hfin
end Go.Proofs.YtnaecdoeldoipaaGreatDoor
set_option linter.unusedVariables false
set_option linter.unusedSimpArgs false
namespace Go.Proofs.YtnaecdoeldoipaaGreatDoor
open Go.ChangeShapes Go.WideShapes Go.ChangeAt Go.RowKit

theorem dKind_any : ∀ d : Nat, 1 ≤ d → d ≤ 4 → DKind d
  | 0, h, _ => absurd h (by omega)
  | d + 1, h, h4 => dKind_of (d + 1) h h4 (fun h1 => by
    rw [Nat.add_sub_cancel]
    exact dKind_any d (by omega) (by omega))
theorem DN_le {d : Nat} (h : d ≤ 4) : DN d ≤ 2040 ∧ DM d ≤ 1021 := by
  obtain rfl | rfl | rfl | rfl | rfl : d = 0 ∨ d = 1 ∨ d = 2 ∨ d = 3 ∨ d = 4 := by omega
  all_goals decide
def KDrawOk (g : Nat) (L : List UInt8) (k N M : Nat) (w : World) (e : Ending) (w' : World) : Prop :=
  ∃ (x : Kind) (us : List Value) (fq : List Nat) (k' : Nat), e = .returned (.agg us.toArray) ∧ OwC w' x.cells us fq ∧ New w' fq w.heap.size ∧ x.bulk ≤ N ∧ k' ≤ k + M ∧ RdD w' g L k' ∧ w.grownBy w' (some g) ∧ x.ok
theorem form0_ok : (Kind.mk 5 [] []).ok := ⟨(Kind.good_iff _ 1).2 ⟨by omega, .inr (.inr ⟨rfl, fun i h => by simp [Kind.names] at h, rfl⟩), trivial⟩, by decide⟩
set_option maxRecDepth 100000 in
set_option maxHeartbeats 4000000 in
theorem l5SomeOk_any {L : List UInt8} {k g : Nat} (top : Bool) {w : World} (h : RdD w g L k) (hk : k ≤ 90000000) :
    Calls Tryz.prog 53 #[.pointer (some ⟨g, 0, none⟩), .bool top] w (KDrawOk g L k 2040 4088 w) := by
  have hgw := h.lt
  have HR0 := hide h
  have HEND := hide (fun (W : World) (x : Kind) (vs : List Value) (fq : List Nat) (k' : Nat) (ho : OwC W x.cells vs fq) (hn : New W fq (w.heap.size + 1)) (hx : x.bulk ≤ 2040) (hk' : k' ≤ k + 4088) (hr : RdD W g L k') (hg : w.grownBy W (some g)) (hok : x.ok) =>
    show KDrawOk g L k 2040 4088 w (.returned (.agg vs.toArray)) (putN W w.heap.size 0 vs) from by
      have hgr := setN_grown vs 0 (grown_refl W (some w.heap.size))
      have hno : w.heap.size ∉ fq := hn.out (by omega)
      have hb : Below w.heap.size W (putN W w.heap.size 0 vs) := below_of_grown hgr (Nat.le_refl _) hg.size
      exact ⟨x, vs, fq, k', rfl, ho.grown hgr hn.lt hno, (hn.grown hgr (fun b e => by injection e with e; subst e; exact hno)).mono (by omega), hx, hk', hr.low hb hgw, only_low hg hb (Nat.le_refl _), hok⟩)
  clear h
  go_enter Tryz.func53, Tryz.ntmps53
  go_upto_region 1 with fail
  generalize hw1 : w.alloc _ = w1
  have hb0 : Below w.heap.size w w1 := by rw [← hw1]; exact (Below.refl _ _).alloc (Nat.le_refl _) _
  have HZ := hide (show Row w1 w.heap.size 38 [.int .i64 0, .slice none 0 0, .slice none 0 0] from by rw [← hw1]; exact Row.new w _ _)
  have HR := hide (HR0.out.below hb0)
  have HG := hide (grownBy_below hb0 (some g))
  clear hw1 hb0 HR0
  go_wp2
  go_loopw [5] (fun i wr => ∃ (j k' : Nat), i = .int .i64 (j : Int) ∧ j ≤ 4 ∧ k' ≤ k + j * 1022 ∧ RdD wr g L k' ∧ w.grownBy wr (some g) ∧ Row wr w.heap.size 38 [.int .i64 0, .slice none 0 0, .slice none 0 0]) (fun i _ => 4 - (intOf i).toNat)
  case atStart => exact ⟨0, k, rfl, by omega, by omega, HR.out, HG.out, HZ.out⟩
  case round =>
    obtain ⟨j, k', rfl, hj, hk', hR, hG, hZ⟩ := hrel
    have HRr := hide hR
    have HGr := hide hG
    have HZr := hide hZ
    have lz := hZ.lt
    clear hR hG hZ HR HG HZ
    by_cases hj4 : j < 4
    · have hji : (j : Int) < 4 := by omega
      have HP := hide (pick_any HRr.out (n := 3) (by omega) (by omega) (by omega))
      go_wp2_with fail
      refine HP.out.mono ?_
      rintro e w5 ⟨r, rfl, hr3, h5, hg5⟩
      have HD := hide (show Calls Tryz.prog 107 #[.pointer (some ⟨g, 0, none⟩), .int .i64 (2 + (r : Int)), .bool top] w5 (KDraw g L (k' + 1) (DN (2 + r)) (DM (2 + r)) w5) from by
        have h := dKind_any (2 + r) (by omega) (by omega) L (k' + 1) g top w5 h5 (by have := (DN_le (show 2 + r ≤ 4 by omega)).2; omega)
        rw [show ((2 + r : Nat) : Int) = 2 + (r : Int) by omega] at h
        exact h)
      have hdn := DN_le (show 2 + r ≤ 4 by omega)
      have HG5 := hide (only_trans HGr.out hg5)
      have HZ5 := hide (HZr.out.grown hg5 (fun e => by injection e with e; omega))
      clear h5 hg5 HP HGr HZr HRr
      go_wp2_with fail
      refine HD.out.mono ?_
      rintro e w6 ⟨x, us, fq, k6, rfl, ho6, hn6, hx6, hk6, hr6, hg6⟩
      have HO6 := hide ho6
      have HN6 := hide (hn6.mono (show w.heap.size + 1 ≤ w5.heap.size from HZ5.out.lt))
      have HR6 := hide hr6
      have HG6 := hide (only_trans HG5.out hg6)
      have HZ6 := hide (HZ5.out.grown hg6 (fun e => by injection e with e; omega))
      have lz6 := HZ6.out.lt
      obtain ⟨B1, d1, B2, d2, f1, f2, rfl, k0, k1, k2, efq⟩ := ho6.oKind
      have hxb : x.bulk ≤ 1048576 := by omega
      clear ho6 hn6 hr6 hg6 k1 k2 efq HD HG5 HZ5
      go_upto_region 5 with fail
      generalize hw7 : World.alloc _ _ = w7
      have hbA : Below w6.heap.size w6 w7 := by rw [← hw7]; exact (Below.refl _ _).alloc (Nat.le_refl _) _
      have HB7 := hide (show Row w7 w6.heap.size 38 [.int .i64 x.sort, .slice B1 x.names.length d1, .slice B2 x.kids.length d2] from by rw [← hw7]; exact Row.new w6 _ _)
      have HO7 := hide (HO6.out.below hbA HN6.out.lt)
      have HN7 := hide (HN6.out.below hbA HN6.out.lt)
      have HR7 := hide (HR6.out.below hbA)
      have HG7 := hide (only_low HG6.out hbA (by omega))
      have HZ7 := hide (HZ6.out.below hbA lz6)
      have hs7 := hbA.size
      clear hw7 hbA HO6 HN6 HR6 HG6 HZ6
      have b0 := HB7.out.cell 0
      have b1 := HB7.out.cell 1
      have b2 := HB7.out.cell 2
      have lb7 := HB7.out.lt
      have HC := hide (specKindOk_any x _ fq w7 HO7.out HN7.out.lt hxb)
      go_wp2_with fail
      refine HC.out.mono ?_
      rintro e w8 ⟨rfl, hb8⟩
      have HB8 := hide (HB7.out.below hb8 lb7)
      have HO8 := hide (HO7.out.below hb8 HN7.out.lt)
      have HN8 := hide (HN7.out.below hb8 HN7.out.lt)
      have HR8 := hide (HR7.out.below hb8)
      have HG8 := hide (only_low HG7.out hb8 (by omega))
      have HZ8 := hide (HZ7.out.below hb8 (by omega))
      clear b0 b1 b2 hb8 HC HB7 HO7 HN7 HR7 HG7 HZ7
      have b0 := HB8.out.cell 0
      have b1 := HB8.out.cell 1
      have b2 := HB8.out.cell 2
      have lb8 := HB8.out.lt
      by_cases hok : x.ok
      · rw [tb_true hok]
        have z0 := HZ8.out.cell 0
        have y0 := HZ8.out.frozen 0
        have z1 := HZ8.out.cell 1
        have y1 := HZ8.out.frozen 1
        have z2 := HZ8.out.cell 2
        have y2 := HZ8.out.frozen 2
        have lz8 := HZ8.out.lt
        go_wp2
        refine bodyPost_ret (ret_row rfl _ _ w.heap.size 38 [.int .i64 x.sort, .slice B1 x.names.length d1, .slice B2 x.kids.length d2] (HZ8.out.setAll [.int .i64 x.sort, .slice B1 x.names.length d1, .slice B2 x.kids.length d2] rfl) _ rfl Tryz.underlying38 rfl (by kernel_rfl)) rfl ?_
        exact HEND.out w8 x _ fq k6 HO8.out HN8.out (by omega) (by omega) HR8.out HG8.out hok
      · rw [tb_false hok]
        go_wp2
        go_roundw
        case rel => exact ⟨j + 1, k6, by go_num, by omega, by omega, HR8.out, HG8.out, HZ8.out⟩
        case measure => simp [intOf]; omega
    · have hji : ¬ ((j : Int) < 4) := by omega
      have z0 := HZr.out.cell 0
      have y0 := HZr.out.frozen 0
      have z1 := HZr.out.cell 1
      have y1 := HZr.out.frozen 1
      have z2 := HZr.out.cell 2
      have y2 := HZr.out.frozen 2
      go_wp2
      refine bodyPost_ret (ret_row rfl _ _ w.heap.size 38 [.int .i64 5, .slice none 0 0, .slice none 0 0] (HZr.out.setAll [.int .i64 5, .slice none 0 0, .slice none 0 0] rfl) _ rfl Tryz.underlying38 rfl (by kernel_rfl)) rfl ?_
      exact HEND.out wr (.mk 5 [] []) _ [] k' (kleaf_ow _ 5 (by decide)) (New.nil _ _) (by decide) (by omega) HRr.out HGr.out form0_ok
end Go.Proofs.YtnaecdoeldoipaaGreatDoor
set_option linter.unusedVariables false
set_option linter.unusedSimpArgs false
namespace Go.Proofs.YtnaecdoeldoipaaGreatDoor
open Go.ChangeShapes Go.WideShapes Go.ChangeAt Go.RowKit

theorem OwC.splitK {w : World} : ∀ {l r : List D} {us : List Value} {fp : List Nat}, OwC w (l ++ r) us fp → ∃ u1 u2 f1 f2, us = u1 ++ u2 ∧ fp = f1 ++ f2 ∧ OwC w l u1 f1 ∧ OwC w r u2 f2 ∧ u1.length = l.length
  | [], r, us, fp, h => ⟨[], us, [], fp, rfl, rfl, by simp [OwC], h, rfl⟩
  | d :: l, r, us, fp, h => by
    cases us with
    | nil => exact h.elim
    | cons y us =>
      obtain ⟨f1, f2, h1, h2, rfl⟩ := h
      obtain ⟨u1, u2, g1, g2, rfl, rfl, h3, h4, h5⟩ := OwC.splitK h2
      exact ⟨y :: u1, u2, f1 ++ g1, g2, rfl, by rw [List.append_assoc], ⟨f1, g1, h1, h3, rfl⟩, h4, by simp [h5]⟩
theorem set3 (u1 u2 : List Value) (p q r a b c : Value) : (((u1 ++ ([p, q, r] ++ u2)).set u1.length a).set (u1.length + 1) b).set (u1.length + 1 + 1) c = u1 ++ ([a, b, c] ++ u2) := by
  rw [List.set_append_right _ _ (Nat.le_refl _), List.set_append_right _ _ (by omega), List.set_append_right _ _ (by omega)]
  simp [show u1.length + 1 + 1 - u1.length = 2 by omega]
theorem OwS.putAt {α : Type} {w : World} {B : Nat} {e : TypeId} {f : α → List D} {g n c : Nat} {l1 l2 : List α} {x y : α} {u1 u0 u2 ux : List Value} {f1 f0 f2 fx : List Nat}
    (h : OwS w B e 3 f (.slice (some ⟨g, 0, none⟩) n c) (l1 ++ x :: l2) (u1 ++ (u0 ++ u2)) (f1 ++ (f0 ++ f2)))
    (c1 : OwC w (l1.flatMap f) u1 f1) (c2 : OwC w (l2.flatMap f) u2 f2) (h0 : u0.length = 3) (hx : OwC w (f y) ux fx) (hxl : ux.length = 3) (hn : New w fx B)
    (hfx : ∀ b ∈ fx, b ∈ f0 ∨ (b ∉ f1 ∧ b ∉ f2 ∧ b ≠ g)) :
    OwS (putN w g u1.length ux) B e 3 f (.slice (some ⟨g, 0, none⟩) n c) (l1 ++ y :: l2) (u1 ++ (ux ++ u2)) (f1 ++ (fx ++ f2)) := by
  obtain ⟨p, q, r, rfl⟩ : ∃ p q r, u0 = [p, q, r] := by
    match u0, h0 with
    | [p, q, r], _ => exact ⟨p, q, r, rfl⟩
  obtain ⟨a, b, d, rfl⟩ : ∃ p q r, ux = [p, q, r] := by
    match ux, hxl with
    | [p, q, r], _ => exact ⟨p, q, r, rfl⟩
  have hgr := setN_grown (w0 := w) [a, b, d] u1.length (grown_refl w (some g))
  have hgo := h.out g rfl
  have hg1 : g ∉ f1 := fun hm => hgo (by simp [hm])
  have hg0 : g ∉ f0 := fun hm => hgo (by simp [hm])
  have hg2 : g ∉ f2 := fun hm => hgo (by simp [hm])
  have hgx : g ∉ fx := fun hm => by
    rcases hfx g hm with h | h
    · exact hg0 h
    · exact h.2.2 rfl
  have hnd := h.new.nd
  have hnn : New w (f1 ++ (fx ++ f2)) B := by
    rw [List.nodup_append] at hnd
    obtain ⟨n1, n2, n3⟩ := hnd
    rw [List.nodup_append] at n2
    obtain ⟨n4, n5, n6⟩ := n2
    refine ⟨fun b hb => ?_, List.nodup_append.2 ⟨n1, List.nodup_append.2 ⟨hn.nd, n5, fun b hb b' hb' e => ?_⟩, fun b hb b' hb' e => ?_⟩, fun b hb => ?_⟩
    · simp only [List.mem_append] at hb
      rcases hb with hb | hb | hb
      · exact h.new.fr b (by simp [hb])
      · exact hn.fr b hb
      · exact h.new.fr b (by simp [hb])
    · subst e
      rcases hfx b hb with h | h
      · exact n6 b h b hb' rfl
      · exact h.2.1 hb'
    · subst e
      rcases List.mem_append.1 hb' with hb' | hb'
      · rcases hfx b hb' with h | h
        · exact n3 b hb b (by simp [h]) rfl
        · exact h.1 hb
      · exact n3 b hb b (by simp [hb']) rfl
    · simp only [List.mem_append] at hb
      rcases hb with hb | hb | hb
      · exact h.new.uf b (by simp [hb])
      · exact hn.uf b hb
      · exact h.new.uf b (by simp [hb])
  have hcc : OwC w ((l1 ++ y :: l2).flatMap f) (u1 ++ ([a, b, d] ++ u2)) (f1 ++ (fx ++ f2)) := by
    rw [List.flatMap_append, List.flatMap_cons]
    exact c1.append (hx.append c2)
  have hno : ∀ k, some g = some k → k ∉ f1 ++ (fx ++ f2) := fun k e hm => by
    injection e with e
    subst e
    simp only [List.mem_append] at hm
    rcases hm with hm | hm | hm
    · exact hg1 hm
    · exact hgx hm
    · exact hg2 hm
  obtain rfl : n = (l1 ++ x :: l2).length := by
    obtain ⟨A, c', e⟩ := h.form
    injection e
  have s1 := (h.own.stored u1.length a).1
  have s2 := (s1.stored (u1.length + 1) b).1
  have s3 := (s2.stored (u1.length + 1 + 1) d).1
  rw [set3] at s3
  refine ⟨?_, hcc.grown' hgr hnn.lt hno, hnn.grown hgr hno, fun k e => hno k e⟩
  have hl : (l1 ++ y :: l2).length = (l1 ++ x :: l2).length := by simp
  rw [hl]
  exact s3
theorem New.leftK {w : World} {f1 f2 : List Nat} {lo : Nat} (h : New w (f1 ++ f2) lo) : New w f1 lo :=
  ⟨fun b hb => h.fr b (List.mem_append.2 (.inl hb)), (List.nodup_append.1 h.nd).1, fun b hb => h.uf b (List.mem_append.2 (.inl hb))⟩
theorem New.rightK {w : World} {f1 f2 : List Nat} {lo : Nat} (h : New w (f1 ++ f2) lo) : New w f2 lo :=
  ⟨fun b hb => h.fr b (List.mem_append.2 (.inr hb)), (List.nodup_append.1 h.nd).2.1, fun b hb => h.uf b (List.mem_append.2 (.inr hb))⟩
/-- a slice that is read, with what lies below its elements -/
theorem Ow.srcNew {α : Type} {w : World} {f : α → List D} {k : Nat} {l : List α} {A : Option Addr} {n c lo : Nat} {fp : List Nat} (h : Ow w (.s k l.length (l.flatMap f)) (.slice A n c) fp) (hn : New w fp lo) :
    ∃ us f2, OwC w (l.flatMap f) us f2 ∧ SrcAt w us A n c ∧ f2 ⊆ fp ∧ New w f2 lo := by
  unfold Ow at h
  obtain ⟨hl, A', c', e, _, _, h⟩ := h
  injection e with e1 e2 e3
  subst e1 e2 e3
  rcases h with ⟨h0, rfl⟩ | ⟨h0, g, off, f1, rfl, ho, rfl⟩
  · have hl0 : l = [] := List.eq_nil_of_length_eq_zero h0
    subst hl0
    refine ⟨[], [], by simp [OwC], ?_, by simp, New.nil _ _⟩
    cases A with
    | none => exact .inl ⟨rfl, rfl⟩
    | some ad => exact .inr ⟨ad, rfl, fun j u hu => by simp at hu⟩
  · obtain ⟨us, hu, hc, ho⟩ := ho.cells
    refine ⟨us, f1, ho, .inr ⟨_, rfl, fun j u hj => ?_⟩, fun b hb => List.mem_cons_of_mem _ hb, New.rightK (f1 := [g]) hn⟩
    rw [Addr.add_lit]
    exact hc j u hj
/-- an empty slice with a block of its own, under a lower bound -/
theorem OwS.emptyL {α : Type} (w : World) (B : Nat) (hB : B ≤ w.heap.size) (e : TypeId) (k : Nat) (f : α → List D) : OwS (w.alloc (.cells #[] e)) B e k f (.slice (some ⟨w.heap.size, 0, none⟩) 0 0) [] [] [] :=
  ⟨World.ownsRow_made w #[] 0 hB (by unfold maxLen; omega) (by simp), by simp [OwC], New.nil _ _, fun g h => by simp⟩
/-- a schema whose kids lie in a grown list -/
theorem sp_kids_fin {W : World} {s : Int} {ns : List ByteArray} {ks : List Kind} {V1 V : Value} {f1 fi : List Nat} {us : List Value} {lo : Nat} {e : TypeId} (hs : (Lit.int .i64 s).wf = true) (o1 : Ow W (.s 1 ns.length (ns.flatMap strC)) V1 f1) (n1 : New W f1 lo)
    (h : OwS W lo e 3 Kind.cells V ks us fi) (hd : ∀ g ∈ f1, V.ownBlock ≠ some g ∧ g ∉ fi) : ∃ fq, OwC W (Kind.mk s ns ks).cells [.int .i64 s, V1, V] fq ∧ New W fq lo ∧ ∀ b ∈ fq, b ∈ f1 ∨ V.ownBlock = some b ∨ b ∈ fi := by
  obtain ⟨p2, o2, n2, s2⟩ := h.toOw'
  refine ⟨f1 ++ p2, OwC.mKind (x := Kind.mk s ns ks) hs o1 o2, ⟨n1.fr.app n2.fr, List.nodup_append.2 ⟨n1.nd, n2.nd, fun a ha b hb e => ?_⟩, fun g hg => ?_⟩, fun b hb => ?_⟩
  · subst e
    rcases s2 a hb with h | h
    · exact (hd a ha).1 h
    · exact (hd a ha).2 h
  · rcases List.mem_append.1 hg with hg | hg
    · exact n1.uf g hg
    · exact n2.uf g hg
  · rcases List.mem_append.1 hb with hb | hb
    · exact .inl hb
    · exact .inr (s2 b hb)
/-- a schema whose names lie in a grown list -/
theorem sp_names_fin {W : World} {s : Int} {ns : List ByteArray} {ks : List Kind} {V V2 : Value} {f2 : List Nat} {us : List Value} {lo : Nat} {e : TypeId} (hs : (Lit.int .i64 s).wf = true) (o2 : Ow W (.s 3 ks.length (ks.flatMap Kind.cells)) V2 f2) (n2 : New W f2 lo)
    (h : OwS W lo e 1 strC V ns us []) (hd : ∀ g ∈ f2, V.ownBlock ≠ some g) : ∃ fq, OwC W (Kind.mk s ns ks).cells [.int .i64 s, V, V2] fq ∧ New W fq lo ∧ ∀ b ∈ fq, V.ownBlock = some b ∨ b ∈ f2 := by
  obtain ⟨p1, o1, n1, s1⟩ := h.toOw'
  refine ⟨p1 ++ f2, OwC.mKind (x := Kind.mk s ns ks) hs o1 o2, ⟨n1.fr.app n2.fr, List.nodup_append.2 ⟨n1.nd, n2.nd, fun a ha b hb e => ?_⟩, fun g hg => ?_⟩, fun b hb => ?_⟩
  · subst e
    rcases s1 a ha with h | h
    · exact hd a hb h
    · cases h
  · rcases List.mem_append.1 hg with hg | hg
    · exact n1.uf g hg
    · exact n2.uf g hg
  · rcases List.mem_append.1 hb with hb | hb
    · rcases s1 b hb with h | h
      · exact .inl h
      · cases h
    · exact .inr hb
/-- the cells of a grown list -/
theorem OwS.cellAt {α : Type} {w : World} {B : Nat} {e : TypeId} {k : Nat} {f : α → List D} {g n c : Nat} {l : List α} {us : List Value} {fi : List Nat} (h : OwS w B e k f (.slice (some ⟨g, 0, none⟩) n c) l us fi) {j : Nat} {u : Value} (hj : us[j]? = some u) :
    w.cell? ⟨g, j, none⟩ = some u ∧ w.frozen? ⟨g, j, none⟩ = false ∧ g < w.heap.size := by
  rcases h.own.2 with ⟨hx, hn⟩ | ⟨g', cap, cur, hv, hB, hg, h1, h2, h3, h4⟩
  · cases hx
  · injection hv with e1 e2 e3
    injection e1 with e1
    injection e1 with e1
    subst e1
    have hrow : Row w g e cur.toList := by simpa [Row] using hg
    refine ⟨?_, hrow.frozen j, hrow.lt⟩
    rw [hrow.cell]
    rw [← h4, List.getElem?_take] at hj
    split at hj
    · exact hj
    · cases hj
/-- a grown list that is not empty has a block -/
theorem OwS.block {α : Type} {w : World} {B : Nat} {e : TypeId} {k : Nat} {f : α → List D} {A : Option Addr} {n c : Nat} {l : List α} {us : List Value} {fi : List Nat} (h : OwS w B e k f (.slice A n c) l us fi) (hl : 0 < l.length) :
    ∃ g, A = some ⟨g, 0, none⟩ ∧ n = l.length ∧ B ≤ g ∧ g < w.heap.size := by
  rcases h.own.2 with ⟨hx, hn⟩ | ⟨g', cap, cur, hv, hB, hg, h1, h2, h3, h4⟩
  · omega
  · injection hv with e1 e2 e3
    have hrow : Row w g' e cur.toList := by simpa [Row] using hg
    exact ⟨g', e1, e2, hB, hrow.lt⟩
theorem sp_split_at {α : Type} : ∀ (l : List α) (i : Nat), i < l.length → ∃ l1 y l2, l = l1 ++ y :: l2 ∧ l1.length = i
  | x :: l, 0, _ => ⟨[], x, l, rfl, rfl⟩
  | x :: l, i + 1, h => by
    obtain ⟨l1, y, l2, e, hl⟩ := sp_split_at l i (by simpa using h)
    exact ⟨x :: l1, y, l2, by rw [e]; rfl, by simp [hl]⟩
end Go.Proofs.YtnaecdoeldoipaaGreatDoor
