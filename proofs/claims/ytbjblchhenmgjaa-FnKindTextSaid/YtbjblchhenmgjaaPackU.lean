/-
  The reference's l4Tree.
-/
import Derived.Test.YtbjblchhenmgjaaPackN
import Derived.Test.YtbjblchhenmgjaaPackT
set_option linter.unusedVariables false
set_option linter.unusedSimpArgs false
namespace Go.Proofs.Ytbjblchhenmgjaa
open Go.ChangeShapes Go.WideShapes Go.ChangeAt Go.RowKit

def PackU (t : Tree) : Prop := ∀ (us : List Value) (fp : List Nat) (lv : Nat) (w : World), OwC w t.cells us fp → Lt fp w.heap.size → t.good lv → t.bulk ≤ 1048576 → t.pack.length ≤ 1073741824 →
  Calls Try.prog 164 #[.agg us.toArray] w fun e w' => ∃ v', e = .returned v' ∧ Byt w' w.heap.size v' t.pack ∧ Below w.heap.size w w'
theorem Tree.pack_ne (t : Tree) : t.pack ≠ [] := by rw [t.pack_eq]; simp
theorem short_ne (s : ByteArray) : short s ≠ [] := by simp [short]
theorem numB_ne (n : Int) : numB n ≠ [] := by simp [numB]

set_option maxRecDepth 100000 in
set_option maxHeartbeats 2000000 in
theorem packU_of (t : Tree) (ih : ∀ x ∈ t.kids, PackU x) : PackU t := by
  intro us fp lv w ho hf hg hbk hl
  obtain ⟨A1, c1, A2, c2, f1, f2, rfl, w0, w1, w2, o1, o2, rfl⟩ := ho.oTree
  have hgg := (Tree.good_iff _ _).1 hg
  have HG := hide hg
  have hsh := hgg.2.1
  unfold Tree.shape at hsh
  have HSH := hide hsh
  have HNS := hide (Tree.names_le hgg.2.1)
  have s1 : 1 ≤ t.sort := by omega
  have s6 : t.sort ≤ 6 := by omega
  have hkb := t.bulk_eq; unfold bulkStrs at hkb
  have HE := hide t.pack_eq
  have HI := hide ih
  have O1 := hide o1
  have O2 := hide o2
  have hz : (t.sort : Int) = ((UInt8.ofNat t.sort.toNat).toNat : Int) := by rw [u8_of _ (by omega)]; omega
  have H1 := hide ((Byt.new (w.alloc (.cells #[.int .i64 t.sort, .int .i64 t.num, .string t.text, .slice A1 t.names.length c1, .slice A2 t.kids.length c2] 26)) (UInt8.ofNat t.sort.toNat)).mono (C := w.heap.size) (by simp))
  rw [← hz] at H1
  simp only [World.size_alloc] at H1
  have R1 : Row ((w.alloc (.cells #[.int .i64 t.sort, .int .i64 t.num, .string t.text, .slice A1 t.names.length c1, .slice A2 t.kids.length c2] 26)).alloc (.cells #[.int .u8 t.sort] 5)) w.heap.size 26 [.int .i64 t.sort, .int .i64 t.num, .string t.text, .slice A1 t.names.length c1, .slice A2 t.kids.length c2] := (Row.new w _ _).alloc _
  have K1 := hide (((KB.refl w.heap.size w).alloc (Nat.le_refl _) (.cells #[.int .i64 t.sort, .int .i64 t.num, .string t.text, .slice A1 t.names.length c1, .slice A2 t.kids.length c2] 26)).alloc (by simp) (.cells #[.int .u8 t.sort] 5))
  have q0 := R1.cell 0
  have q1 := R1.cell 1
  have q2 := R1.cell 2
  have q3 := R1.cell 3
  have q4 := R1.cell 4
  have lr1 := R1.lt
  clear ho o1 o2 hg hgg hsh ih hz
  go_enter Try.func164, Try.ntmps164
  by_cases e1 : t.sort = 1
  · have z1 : (t.sort == 1) = true := by simp [e1]
    rw [if_pos e1] at HE
    have hn : -999999999 ≤ t.num ∧ t.num ≤ 999999999 := by have := HSH.out; omega
    have hlen : (numB t.num).length ≤ 10 := by
      have := sevens_len 4 t.num.natAbs (by have : (128 : Nat) ^ 5 = 34359738368 := by decide
                                            omega)
      simp only [numB, List.length_cons]; omega
    clear e1
    go_wp2_with fail
    refine (l4Num_any t.num _ hn).mono ?_
    rintro e u2 ⟨v2, rfl, h2, k2⟩
    have H1 := hide (H1.out.below k2)
    have K2 := hide (K1.out.trans (KB.of (by simp; omega) k2))
    have b2 := k2.size
    simp only [World.size_alloc] at b2
    clear k2
    go_wp2_with (at_builtin; refine wpl_bytes _ rfl _ _ rfl w.heap.size _ _ v2 _ _ rfl H1.out rfl h2 (numB_ne _) ?pl1 ?pb1 ?_)
    case pl1 => (try simp); omega
    case pb1 => omega
    intro v3 w3 h3 k3
    go_wp2
    go_ret
    exact ⟨v3, rfl, by rw [HE.out]; simpa using h3, (K2.out.trans k3).below⟩
  · have z1 : (t.sort == 1) = false := by simp [e1]
    rw [if_neg e1] at HE
    by_cases e2 : t.sort = 2
    · have z2 : (t.sort == 2) = true := by simp [e2]
      rw [if_pos e2] at HE
      have ht : t.text.size ≤ 255 := by
        have h6 : TextOk t.text := by
          rcases HSH.out with h | h | h | h | h | h
          · omega
          · exact h.2.2.1
          · omega
          · omega
          · omega
          · omega
        have := h6.1
        omega
      have hlen := short_len t.text
      clear e1 e2
      go_wp2_with fail
      refine (l4Short_any t.text _ ht).mono ?_
      rintro e u2 ⟨v2, rfl, h2, k2⟩
      have H1 := hide (H1.out.below k2)
      have K2 := hide (K1.out.trans (KB.of (by simp; omega) k2))
      have b2 := k2.size
      simp only [World.size_alloc] at b2
      clear k2
      go_wp2_with (at_builtin; refine wpl_bytes _ rfl _ _ rfl w.heap.size _ _ v2 _ _ rfl H1.out rfl h2 (short_ne _) ?pl2 ?pb2 ?_)
      case pl2 => (try simp); omega
      case pb2 => omega
      intro v3 w3 h3 k3
      go_wp2
      go_ret
      exact ⟨v3, rfl, by rw [HE.out]; simpa using h3, (K2.out.trans k3).below⟩
    · have z2 : (t.sort == 2) = false := by simp [e2]
      rw [if_neg e2] at HE
      by_cases e3 : t.sort = 3
      · have z3 : (t.sort == 3) = true := by simp [e3]
        rw [if_pos e3] at HE
        have hn : 0 ≤ t.num ∧ t.num ≤ 1 := by have := HSH.out; omega
        clear e1 e2 e3
        go_wp2_with (at_builtin; refine wpl_push1 _ _ rfl _ _ rfl w.heap.size _ _ rfl H1.out (UInt8.ofNat t.num.toNat) _ rfl ?pg3 ?pz3 ?pl3 ?pb3 ?_)
        case pg3 => simp
        case pz3 => rw [u8_of _ (by omega)]; omega
        case pl3 => (try simp); (try omega)
        case pb3 => simp; omega
        intro v3 w3 h3 k3
        go_wp2
        go_ret
        exact ⟨v3, rfl, by rw [HE.out]; simpa using h3, (K1.out.trans k3).below⟩
      · have z3 : (t.sort == 3) = false := by simp [e3]
        rw [if_neg e3] at HE
        have hE2 : t.pack.length = 2 + (Tree.packS (t.sort == 5) t.names t.kids).length := by rw [HE.out]; simp; omega
        have hkn : t.kids.length ≤ 1048576 := by omega
        go_wp2_with (at_builtin; refine wpl_push1 _ _ rfl _ _ rfl w.heap.size _ _ rfl H1.out (UInt8.ofNat t.kids.length) _ rfl ?pg4 ?pz4 ?pl4 ?pb4 ?_)
        case pg4 => simp
        case pz4 => simp only [UInt8.toNat_ofNat']; omega
        case pl4 => (try simp); (try omega)
        case pb4 => simp; omega
        intro v2 w2_ h2 k2
        have H2 := hide h2
        have R2 := k2.rows _ _ _ R1 (by decide)
        have K2 := hide (K1.out.trans k2)
        have b2 := K2.out.below.size
        have p4 := R2.cell 4
        have lr2 := R2.lt
        clear h2 k2 q0 q1 q2 q3 q4 R1 lr1
        go_wp2
        go_loopw [3, 4] (fun vv i wr => ∃ j : Nat, j ≤ t.kids.length ∧ i = .int .i64 j ∧ Byt wr w.heap.size vv ([UInt8.ofNat t.sort.toNat] ++ [UInt8.ofNat t.kids.length] ++ Tree.packS (t.sort == 5) t.names (t.kids.take j)) ∧ KB w.heap.size w wr ∧ Row wr w.heap.size 26 [.int .i64 t.sort, .int .i64 t.num, .string t.text, .slice A1 t.names.length c1, .slice A2 t.kids.length c2]) (fun _ i _ => t.kids.length - (intOf i).toNat)
        case atStart => exact ⟨0, Nat.zero_le _, rfl, by simpa [Tree.packS] using H2.out, K2.out, R2⟩
        case round =>
          obtain ⟨j, hj, rfl, hby, hkw, hrow⟩ := hrel
          have HBY := hide hby
          have HKB := hide hkw
          have b3 := hkw.below.size
          clear hby hkw R2 p4 lr2
          have r0 := hrow.cell 0
          have r3 := hrow.cell 3
          have r4 := hrow.cell 4
          have lr := hrow.lt
          by_cases hlt : j < t.kids.length
          · obtain ⟨g, off, ws, fi, rfl, hgm, hfi, hwl, hcs, hov⟩ := (O2.out.below HKB.out.below hf.right).elem Tree.cells_len hlt
            have HOT := hide hov
            have HFT := hide (((hf.right).sub hfi).mono b3)
            have hgl := hf.right _ hgm
            have HC := hide (HI.out _ (List.getElem_mem hlt))
            have hgx := hide (Tree.goodS_at ((Tree.good_iff _ _).1 HG.out).2.2 hlt)
            have hbx : t.kids[j].bulk ≤ 1048576 := by
              have h1 := Tree.bulkS_snoc t.kids j hlt
              have h2 := Tree.bulkS_le t.kids (j + 1)
              omega
            have hsn := hide (Tree.packS_snoc t.kids (t.sort == 5) t.names j hlt)
            have hle := Tree.packS_le (t.sort == 5) t.names t.kids (j + 1)
            rw [hsn.out] at hle
            simp only [List.length_append] at hle
            obtain ⟨D1, e1', D2, e2', r1', r2', rfl, y0, y1, y2, z1', z2', rfl⟩ := hov.oTree
            have p0 := hcs 0 _ rfl
            have p1 := hcs 1 _ rfl
            have p2 := hcs 2 _ rfl
            have p3 := hcs 3 _ rfl
            have p4 := hcs 4 _ rfl
            simp only [Nat.add_zero] at p0
            have hgw : g < wr.heap.size := by omega
            have hfi9 := hide hfi
            clear hcs hov z1' z2' hfi
            obtain ⟨x, hx⟩ : ∃ x, t.kids[j] = x := ⟨_, rfl⟩
            rw [hx] at p0 p1 p2 p3 p4 HOT HC hgx hbx hsn hle
            clear hx
            by_cases e5 : t.sort = 5
            · have z5 : (t.sort == 5) = true := by simp [e5]
              have hnl : j < t.names.length := by have := HSH.out; omega
              obtain ⟨ga, oa, rfl, hga, hca, hs8⟩ := strs_at (O1.out.below HKB.out.below hf.left) hnl
              have hn8 : t.names[j].size ≤ 8 := HNS.out _ (List.getElem_mem hnl)
              have hnd : (t.names[j]?.getD .empty) = t.names[j] := by rw [List.getElem?_eq_getElem hnl]; rfl
              rw [hnd, z5] at hsn hle
              simp only [if_true] at hle
              have hsl := short_len t.names[j]
              simp only [z5] at hE2
              have HBY := hide (z5 ▸ HBY.out)
              clear hnd e5
              obtain ⟨nm, hnm⟩ : ∃ nm, t.names[j] = nm := ⟨_, rfl⟩
              rw [hnm] at hca hn8 hsn hle hsl
              clear hnm
              go_wp2_with fail
              refine (l4Short_any nm _ (by omega)).mono ?_
              rintro e u5 ⟨v5, rfl, h5, k5⟩
              have HB5 := hide (HBY.out.below k5)
              have R5 := hrow.below k5 lr
              have K5 := hide (HKB.out.trans (KB.of (by omega) k5))
              have b5 := k5.size
              have p0c := hide p0
              have p1c := hide p1
              have p2c := hide p2
              have p3c := hide p3
              have p4c := hide p4
              clear r0 r3 r4 p0 p1 p2 p3 p4 hca
              go_wp2_with (at_builtin; refine wpl_bytes _ rfl _ _ rfl w.heap.size _ _ v5 _ _ rfl HB5.out rfl h5 (short_ne _) ?pl5 ?pb5 ?_)
              case pl5 => (try simp); omega
              case pb5 => omega
              intro v6 w6 h6 k6
              have H6 := hide h6
              have R6 := k6.rows _ _ _ R5 (by decide)
              have K6 := hide (K5.out.trans k6)
              have b6 := K6.out.below.size
              have r4 := R6.cell 4
              have lr6 := R6.lt
              have hgw6 : g < w6.heap.size := by omega
              have hcar : ∀ off', w6.cell? ⟨g, off', none⟩ = wr.cell? ⟨g, off', none⟩ := fun off' => ((K6.out.below.cell (p := ⟨g, off', none⟩) hgl).trans (HKB.out.below.cell (p := ⟨g, off', none⟩) hgl).symm)
              have p0 := (hcar _).trans p0c.out
              have p1 := (hcar _).trans p1c.out
              have p2 := (hcar _).trans p2c.out
              have p3 := (hcar _).trans p3c.out
              have p4 := (hcar _).trans p4c.out
              have HFT6 := hide ((hf.right).sub hfi9.out)
              have HOT6 := hide (OwC.frame _ (fun b hb => ((K6.out.below.block b (HFT6.out b hb)).trans (HKB.out.below.block b (HFT6.out b hb)).symm)) HOT.out)
              clear hcar
              go_wp2_with fail
              refine (HC.out _ _ (lv + 1) _ HOT6.out (HFT6.out.mono (by omega)) hgx.out hbx (by omega)).mono ?_
              rintro e u7 ⟨v7, rfl, h7, k7⟩
              have HB7 := hide (H6.out.below k7)
              have R7 := R6.below k7 lr6
              have K7 := hide (K6.out.trans (KB.of (by omega) k7))
              have b7 := k7.size
              clear r4 p0 p1 p2 p3 p4
              go_wp2_with (at_builtin; refine wpl_bytes _ rfl _ _ rfl w.heap.size _ _ v7 _ _ rfl HB7.out rfl h7 (Tree.pack_ne _) ?pl6 ?pb6 ?_)
              case pl6 => (try simp); omega
              case pb6 => omega
              intro v8 w8 h8 k8
              have H8 := hide h8
              have R8 := hide (k8.rows _ _ _ R7 (by decide))
              have K8 := hide (K7.out.trans k8)
              clear h8 k8 R7
              go_wp2
              go_roundw
              case rel => exact ⟨j + 1, by omega, by go_num, by rw [z5, hsn.out]; simpa using H8.out, K8.out, R8.out⟩
              case measure => simp [intOf]; omega
            · have z5 : (t.sort == 5) = false := by simp [e5]
              rw [z5] at hsn hle
              simp only [Bool.false_eq_true, if_false, List.length_nil] at hle
              simp only [z5] at hE2
              have HBY := hide (z5 ▸ HBY.out)
              clear e5
              go_wp2_with fail
              refine (HC.out _ _ (lv + 1) _ HOT.out HFT.out hgx.out hbx (by omega)).mono ?_
              rintro e u7 ⟨v7, rfl, h7, k7⟩
              have HB7 := hide (HBY.out.below k7)
              have R7 := hrow.below k7 lr
              have K7 := hide (HKB.out.trans (KB.of (by omega) k7))
              have b7 := k7.size
              clear r0 r3 r4 p0 p1 p2 p3 p4
              go_wp2_with (at_builtin; refine wpl_bytes _ rfl _ _ rfl w.heap.size _ _ v7 _ _ rfl HB7.out rfl h7 (Tree.pack_ne _) ?pl7 ?pb7 ?_)
              case pl7 => (try simp); omega
              case pb7 => omega
              intro v8 w8 h8 k8
              have H8 := hide h8
              have R8 := hide (k8.rows _ _ _ R7 (by decide))
              have K8 := hide (K7.out.trans k8)
              clear h8 k8 R7
              go_wp2
              go_roundw
              case rel => exact ⟨j + 1, by omega, by go_num, by rw [z5, hsn.out]; simpa using H8.out, K8.out, R8.out⟩
              case measure => simp [intOf]; omega
          · obtain rfl : j = t.kids.length := by omega
            have HB2 := HBY
            rw [List.take_length] at HB2
            go_wp2
            go_ret
            exact ⟨_, rfl, by rw [HE.out]; simpa using HB2.out, HKB.out.below⟩
theorem packU_any (t : Tree) : PackU t := Tree.ind packU_of t
end Go.Proofs.Ytbjblchhenmgjaa
