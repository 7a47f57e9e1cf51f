/-
  The program's packTree.
-/
import Derived.Test.YtbjblchhenmgjaaPackI
set_option linter.unusedVariables false
set_option linter.unusedSimpArgs false
namespace Go.Proofs.Ytbjblchhenmgjaa
open Go.ChangeShapes Go.WideShapes Go.ChangeAt Go.RowKit

def PackTree (t : Tree) : Prop := ∀ (us : List Value) (fp : List Nat) (lv : Nat) (v : Value) (bs : List UInt8) (B : Nat) (w : World), Byt w B v bs → B ≤ w.heap.size → OwC w t.cells us fp → Lt fp B → t.good lv → t.bulk ≤ 1048576 → bs.length + t.pack.length ≤ 1073741824 →
  Calls Try.prog 167 #[v, .agg us.toArray] w fun e w' => ∃ v', e = .returned v' ∧ Byt w' B v' (bs ++ t.pack) ∧ KB B w w'
theorem Tree.packS_le (f : Bool) (ns : List ByteArray) (l : List Tree) (j : Nat) : (Tree.packS f ns (l.take j)).length ≤ (Tree.packS f ns l).length := by
  induction l generalizing ns j with
  | nil => simp
  | cons t r ih =>
    cases j with
    | zero => simp [Tree.packS]
    | succ j =>
      have := ih ns.tail j
      simp only [List.take_succ_cons, Tree.packS, List.length_append]
      omega

set_option maxRecDepth 100000 in
set_option maxHeartbeats 2000000 in
theorem packTree_of (t : Tree) (ih : ∀ x ∈ t.kids, PackTree x) : PackTree t := by
  intro us fp lv v bs B w hv hB ho hf hg hbk hl
  obtain ⟨A1, c1, A2, c2, f1, f2, rfl, w0, w1, w2, o1, o2, rfl⟩ := ho.oTree
  have K0 := hide ((KB.refl B w).alloc hB (.cells #[.int .i64 t.sort, .int .i64 t.num, .string t.text, .slice A1 t.names.length c1, .slice A2 t.kids.length c2] 26))
  have HV := hide (hv.alloc (.cells #[.int .i64 t.sort, .int .i64 t.num, .string t.text, .slice A1 t.names.length c1, .slice A2 t.kids.length c2] 26))
  have R0 : Row (w.alloc (.cells #[.int .i64 t.sort, .int .i64 t.num, .string t.text, .slice A1 t.names.length c1, .slice A2 t.kids.length c2] 26)) w.heap.size 26 [.int .i64 t.sort, .int .i64 t.num, .string t.text, .slice A1 t.names.length c1, .slice A2 t.kids.length c2] := Row.new w _ _
  have O1 := hide o1
  have O2 := hide o2
  have hgg := (Tree.good_iff _ _).1 hg
  have HG := hide hg
  have hsh := hgg.2.1
  unfold Tree.shape at hsh
  have HSH := hide hsh
  have HNS := hide (Tree.names_le hgg.2.1)
  have s1 : 1 ≤ t.sort := by omega
  have s6 : t.sort ≤ 6 := by omega
  have hkb := t.bulk_eq; unfold bulkStrs at hkb
  have HE := hide t.pack_eq
  have HI := hide ih
  clear ho o1 o2 hv hg hgg hsh ih
  go_enter Try.func167, Try.ntmps167
  go_wp2_with (at_builtin; refine wpl_push1 _ _ rfl _ _ rfl B _ bs rfl HV.out (UInt8.ofNat t.sort.toNat) _ rfl ?pg1 ?pz1 ?pl1 ?pb1 ?_)
  case pg1 => first | rfl | simp | (trace_state; fail)
  first | (case pz1 => rw [u8_of _ (by omega)]; omega) | skip
  case pl1 => (try simp); omega
  case pb1 => have := K0.out.below.size; (first | omega | ((try simp); omega))
  intro v1 w1_ h1 k1
  have H1 := hide h1
  have R1 := k1.rows _ _ _ R0 (by decide)
  have K1 := hide (K0.out.trans k1)
  clear h1 k1
  have b1 := K1.out.below.size
  have lr1 := R1.lt
  have q0 := R1.cell 0
  have q1 := R1.cell 1
  have q2 := R1.cell 2
  have q3 := R1.cell 3
  have q4 := R1.cell 4
  by_cases e1 : t.sort = 1
  · have z1 : (t.sort == 1) = true := by simp [e1]
    rw [if_pos e1] at HE
    have hn : -999999999 ≤ t.num ∧ t.num ≤ 999999999 := by have := HSH.out; omega
    have hE := hide (show bs ++ t.pack = bs ++ [UInt8.ofNat t.sort.toNat] ++ [if t.num < 0 then 1 else 0] ++ sevens t.num.natAbs by rw [HE.out]; simp [numB])
    have hE2 : t.pack.length = 2 + (sevens t.num.natAbs).length := by rw [HE.out]; simp [numB]; omega
    clear e1
    by_cases hneg : t.num < 0
    · have hsg : (if t.num < 0 then 1 else 0 : UInt8) = 1 := if_pos hneg
      rw [hsg] at hE
      clear hsg
      go_wp2_with (at_builtin; refine wpl_push1 _ _ rfl _ _ rfl B _ _ rfl H1.out 1 _ rfl ?pg2 ?pz2 ?pl2 ?pb2 ?_)
      case pg2 => first | rfl | simp | (trace_state; fail)
      first | (case pz2 => rfl) | skip
      case pl2 => (try simp); omega
      case pb2 => have := K1.out.below.size; (first | omega | ((try simp); omega))
      intro v2 w2_ h2 k2
      have H2 := hide h2
      have R2 := k2.rows _ _ _ R1 (by decide)
      have K2 := hide (K1.out.trans k2)
      clear h2 k2
      have b2 := K2.out.below.size
      have hN : t.num.natAbs < 1073741824 := by omega
      clear q0 q1 q2 q3 q4 R1 R2
      go_wp2
      go_loopw [0, 5] (fun vv sz wr => ∃ (n : Nat) (dn : List UInt8), sz = .int .i64 n ∧ n < 1073741824 ∧ dn ++ sevens n = sevens t.num.natAbs ∧ Byt wr B vv (bs ++ [UInt8.ofNat t.sort.toNat] ++ [1] ++ dn) ∧ KB B w wr) (fun _ sz _ => (intOf sz).toNat)
      case atStart => exact ⟨t.num.natAbs, [], by congr 1; omega, hN, rfl, by simpa using H2.out, K2.out⟩
      case round =>
        obtain ⟨n, dn, rfl, hn1, hdn, hby, hkb⟩ := hrel
        have HBY := hide hby
        have HKB := hide hkb
        have b3 := hkb.below.size
        have hdl : dn.length + (sevens n).length = (sevens t.num.natAbs).length := by rw [← hdn]; simp
        have HDN := hide hdn
        clear hby hkb hdn
        by_cases hge : 128 ≤ n
        · have hs := hide (sevens_ge hge)
          have hsl : 1 ≤ (sevens n).length := by rw [hs.out]; simp
          go_wp2_with (at_builtin; refine wpl_push1 _ _ rfl _ _ rfl B _ _ rfl HBY.out (UInt8.ofNat (n % 128 + 128)) _ rfl ?pg3 ?pz3 ?pl3 ?pb3 ?_)
          case pg3 => first | rfl | simp | (trace_state; fail)
          case pz3 => rw [u8_of _ (by omega)]; omega
          case pl3 => (try simp); omega
          case pb3 => omega
          intro v4 w4_ h4 k4
          have H4 := hide h4
          have K4 := hide (HKB.out.trans k4)
          clear h4 k4
          go_wp2
          go_roundw
          case rel => exact ⟨n / 128, dn ++ [UInt8.ofNat (n % 128 + 128)], by go_num, by omega, by rw [← HDN.out, hs.out]; simp, by simpa using H4.out, K4.out⟩
          case measure => simp [intOf]; omega
        · have hs := hide (sevens_lt (n := n) (by omega))
          have hsl : 1 ≤ (sevens n).length := by rw [hs.out]; simp
          go_wp2_with (at_builtin; refine wpl_push1 _ _ rfl _ _ rfl B _ _ rfl HBY.out (UInt8.ofNat n) _ rfl ?pg4 ?pz4 ?pl4 ?pb4 ?_)
          case pg4 => first | rfl | simp | (trace_state; fail)
          case pz4 => rw [u8_of _ (by omega)]; (try omega)
          case pl4 => (try simp); omega
          case pb4 => omega
          intro v4 w4_ h4 k4
          have H4 := hide h4
          have K4 := hide (HKB.out.trans k4)
          clear h4 k4
          go_wp2
          go_ret
          exact ⟨v4, rfl, by rw [hE.out, ← HDN.out, hs.out]; simpa using H4.out, K4.out⟩
    · have hsg : (if t.num < 0 then 1 else 0 : UInt8) = 0 := if_neg hneg
      rw [hsg] at hE
      clear hsg
      go_wp2_with (at_builtin; refine wpl_push1 _ _ rfl _ _ rfl B _ _ rfl H1.out 0 _ rfl ?pg5 ?pz5 ?pl5 ?pb5 ?_)
      case pg5 => first | rfl | simp | (trace_state; fail)
      first | (case pz5 => rfl) | skip
      case pl5 => (try simp); omega
      case pb5 => have := K1.out.below.size; (first | omega | ((try simp); omega))
      intro v2 w2_ h2 k2
      have H2 := hide h2
      have R2 := k2.rows _ _ _ R1 (by decide)
      have K2 := hide (K1.out.trans k2)
      clear h2 k2
      have b2 := K2.out.below.size
      have hN : t.num.natAbs < 1073741824 := by omega
      clear q0 q1 q2 q3 q4 R1 R2
      go_wp2
      go_loopw [0, 5] (fun vv sz wr => ∃ (n : Nat) (dn : List UInt8), sz = .int .i64 n ∧ n < 1073741824 ∧ dn ++ sevens n = sevens t.num.natAbs ∧ Byt wr B vv (bs ++ [UInt8.ofNat t.sort.toNat] ++ [0] ++ dn) ∧ KB B w wr) (fun _ sz _ => (intOf sz).toNat)
      case atStart => exact ⟨t.num.natAbs, [], by congr 1; omega, hN, rfl, by simpa using H2.out, K2.out⟩
      case round =>
        obtain ⟨n, dn, rfl, hn1, hdn, hby, hkb⟩ := hrel
        have HBY := hide hby
        have HKB := hide hkb
        have b3 := hkb.below.size
        have hdl : dn.length + (sevens n).length = (sevens t.num.natAbs).length := by rw [← hdn]; simp
        have HDN := hide hdn
        clear hby hkb hdn
        by_cases hge : 128 ≤ n
        · have hs := hide (sevens_ge hge)
          have hsl : 1 ≤ (sevens n).length := by rw [hs.out]; simp
          go_wp2_with (at_builtin; refine wpl_push1 _ _ rfl _ _ rfl B _ _ rfl HBY.out (UInt8.ofNat (n % 128 + 128)) _ rfl ?pg6 ?pz6 ?pl6 ?pb6 ?_)
          case pg6 => first | rfl | simp | (trace_state; fail)
          case pz6 => rw [u8_of _ (by omega)]; omega
          case pl6 => (try simp); omega
          case pb6 => omega
          intro v4 w4_ h4 k4
          have H4 := hide h4
          have K4 := hide (HKB.out.trans k4)
          clear h4 k4
          go_wp2
          go_roundw
          case rel => exact ⟨n / 128, dn ++ [UInt8.ofNat (n % 128 + 128)], by go_num, by omega, by rw [← HDN.out, hs.out]; simp, by simpa using H4.out, K4.out⟩
          case measure => simp [intOf]; omega
        · have hs := hide (sevens_lt (n := n) (by omega))
          have hsl : 1 ≤ (sevens n).length := by rw [hs.out]; simp
          go_wp2_with (at_builtin; refine wpl_push1 _ _ rfl _ _ rfl B _ _ rfl HBY.out (UInt8.ofNat n) _ rfl ?pg7 ?pz7 ?pl7 ?pb7 ?_)
          case pg7 => first | rfl | simp | (trace_state; fail)
          case pz7 => rw [u8_of _ (by omega)]; (try omega)
          case pl7 => (try simp); omega
          case pb7 => omega
          intro v4 w4_ h4 k4
          have H4 := hide h4
          have K4 := hide (HKB.out.trans k4)
          clear h4 k4
          go_wp2
          go_ret
          exact ⟨v4, rfl, by rw [hE.out, ← HDN.out, hs.out]; simpa using H4.out, K4.out⟩
  · have z1 : (t.sort == 1) = false := by simp [e1]
    rw [if_neg e1] at HE
    by_cases e2 : t.sort = 2
    · have z2 : (t.sort == 2) = true := by simp [e2]
      rw [if_pos e2] at HE
      have ht : t.text.size ≤ 255 := by
        have h6 : TextOk t.text := by
          rcases HSH.out with h | h | h | h | h | h
          · omega
          · exact h.2.2.1
          · omega
          · omega
          · omega
          · omega
        have := h6.1
        omega
      have hE2 : t.pack.length = 1 + (short t.text).length := by rw [HE.out]; simp; omega
      clear e1 e2
      go_wp2_with fail
      refine (packText_any _ t.text _ B _ H1.out (by omega) ht (by simp; omega)).mono ?_
      rintro e w3 ⟨v3, rfl, h3, k3⟩
      have H3 := hide h3
      have K3 := hide (K1.out.trans k3)
      clear h3 k3
      go_wp2
      go_ret
      exact ⟨v3, rfl, by rw [HE.out]; simpa using H3.out, K3.out⟩
    · have z2 : (t.sort == 2) = false := by simp [e2]
      rw [if_neg e2] at HE
      by_cases e3 : t.sort = 3
      · have z3 : (t.sort == 3) = true := by simp [e3]
        rw [if_pos e3] at HE
        have hn : 0 ≤ t.num ∧ t.num ≤ 1 := by have := HSH.out; omega
        have hE2 : t.pack.length = 2 := by rw [HE.out]; simp
        clear e1 e2 e3
        go_wp2_with (at_builtin; refine wpl_push1 _ _ rfl _ _ rfl B _ _ rfl H1.out (UInt8.ofNat t.num.toNat) _ rfl ?pg8 ?pz8 ?pl8 ?pb8 ?_)
        case pg8 => first | rfl | simp | (trace_state; fail)
        first | (case pz8 => rw [u8_of _ (by omega)]; omega) | skip
        case pl8 => (try simp); omega
        case pb8 => have := K1.out.below.size; (first | omega | ((try simp); omega))
        intro v2 w2_ h2 k2
        have H2 := hide h2
        have R2 := k2.rows _ _ _ R1 (by decide)
        have K2 := hide (K1.out.trans k2)
        clear h2 k2
        go_wp2
        go_ret
        exact ⟨v2, rfl, by rw [HE.out]; simpa using H2.out, K2.out⟩
      · have z3 : (t.sort == 3) = false := by simp [e3]
        rw [if_neg e3] at HE
        have hkl : t.kids.length ≤ 120 ∨ True := .inr trivial
        have hsz := t.parts_eq
        have hE2 : t.pack.length = 2 + (Tree.packS (t.sort == 5) t.names t.kids).length := by rw [HE.out]; simp; omega
        have hkn : t.kids.length ≤ 1048576 := by omega
        clear hsz hkl
        go_wp2_with (at_builtin; refine wpl_push1 _ _ rfl _ _ rfl B _ _ rfl H1.out (UInt8.ofNat t.kids.length) _ rfl ?pg9 ?pz9 ?pl9 ?pb9 ?_)
        case pg9 => first | rfl | simp | (trace_state; fail)
        first | (case pz9 => simp only [UInt8.toNat_ofNat']; omega) | skip
        case pl9 => (try simp); omega
        case pb9 => have := K1.out.below.size; (first | omega | ((try simp); omega))
        intro v2 w2_ h2 k2
        have H2 := hide h2
        have R2 := k2.rows _ _ _ R1 (by decide)
        have K2 := hide (K1.out.trans k2)
        clear h2 k2
        have b2 := K2.out.below.size
        have lr2 := R2.lt
        have p4 := R2.cell 4
        clear q0 q1 q2 q3 q4
        go_wp2
        go_loopw [0, 71] (fun vv i wr => ∃ j : Nat, j ≤ t.kids.length ∧ i = .int .i64 j ∧ Byt wr B vv (bs ++ [UInt8.ofNat t.sort.toNat] ++ [UInt8.ofNat t.kids.length] ++ Tree.packS (t.sort == 5) t.names (t.kids.take j)) ∧ KB B w wr ∧ Row wr w.heap.size 26 [.int .i64 t.sort, .int .i64 t.num, .string t.text, .slice A1 t.names.length c1, .slice A2 t.kids.length c2]) (fun _ i _ => t.kids.length - (intOf i).toNat)
        case atStart => exact ⟨0, Nat.zero_le _, rfl, by simpa [Tree.packS] using H2.out, K2.out, R2⟩
        case round =>
          obtain ⟨j, hj, rfl, hby, hkw, hrow⟩ := hrel
          have HBY := hide hby
          have HKB := hide hkw
          have b3 := hkw.below.size
          clear hby hkw R1 R2 p4
          by_cases hlt : j < t.kids.length
          · obtain ⟨g, off, ws, fi, rfl, hgm, hfi, hwl, hcs, hov⟩ := (O2.out.below HKB.out.below hf.right).elem Tree.cells_len hlt
            have HOT := hide hov
            have HFT := hide ((hf.right).sub hfi)
            have hgl := hf.right _ hgm
            have HC := hide (HI.out _ (List.getElem_mem hlt))
            have hgx := hide (Tree.goodS_at ((Tree.good_iff _ _).1 HG.out).2.2 hlt)
            have hbx : t.kids[j].bulk ≤ 1048576 := by
              have h1 := Tree.bulkS_snoc t.kids j hlt
              have h2 := Tree.bulkS_le t.kids (j + 1)
              omega
            have hsn := hide (Tree.packS_snoc t.kids (t.sort == 5) t.names j hlt)
            have hle := Tree.packS_le (t.sort == 5) t.names t.kids (j + 1)
            rw [hsn.out] at hle
            simp only [List.length_append] at hle
            obtain ⟨D1, e1', D2, e2', r1, r2, rfl, y0, y1, y2, z1', z2', rfl⟩ := hov.oTree
            have p0 := hcs 0 _ rfl
            have p1 := hcs 1 _ rfl
            have p2 := hcs 2 _ rfl
            have p3 := hcs 3 _ rfl
            have p4 := hcs 4 _ rfl
            simp only [Nat.add_zero] at p0
            have hgw : g < wr.heap.size := by omega
            have hrl := hrow.lt
            clear hcs hov z1' z2' hfi
            obtain ⟨x, hx⟩ : ∃ x, t.kids[j] = x := ⟨_, rfl⟩
            rw [hx] at p0 p1 p2 p3 p4 HOT HC hgx hbx hsn hle
            have KX := hide (HKB.out.alloc (by omega) (.cells #[.int .i64 x.sort, .int .i64 x.num, .string x.text, .slice D1 x.names.length e1', .slice D2 x.kids.length e2'] 26))
            have HX := hide (HBY.out.alloc (.cells #[.int .i64 x.sort, .int .i64 x.num, .string x.text, .slice D1 x.names.length e1', .slice D2 x.kids.length e2'] 26))
            have RX : Row (wr.alloc (.cells #[.int .i64 x.sort, .int .i64 x.num, .string x.text, .slice D1 x.names.length e1', .slice D2 x.kids.length e2'] 26)) wr.heap.size 26 [.int .i64 x.sort, .int .i64 x.num, .string x.text, .slice D1 x.names.length e1', .slice D2 x.kids.length e2'] := Row.new wr _ _
            have RW := hrow.alloc (.cells #[.int .i64 x.sort, .int .i64 x.num, .string x.text, .slice D1 x.names.length e1', .slice D2 x.kids.length e2'] 26)
            have BX := hide (show Below B wr (wr.alloc (.cells #[.int .i64 x.sort, .int .i64 x.num, .string x.text, .slice D1 x.names.length e1', .slice D2 x.kids.length e2'] 26)) from (Below.refl _ _).alloc (by omega) _)
            clear hx
            by_cases e5 : t.sort = 5
            · have z5 : (t.sort == 5) = true := by simp [e5]
              have hnl : j < t.names.length := by have := HSH.out; omega
              obtain ⟨ga, oa, rfl, hga, hca, hs8⟩ := strs_at (O1.out.below KX.out.below hf.left) hnl
              have hn8 : t.names[j].size ≤ 8 := HNS.out _ (List.getElem_mem hnl)
              have hnd : (t.names[j]?.getD .empty) = t.names[j] := by rw [List.getElem?_eq_getElem hnl]; rfl
              rw [hnd, z5] at hsn hle
              simp only [if_true] at hle
              have hsl := short_len t.names[j]
              have HCU : Hid (Byt (wr.alloc (.cells #[.int .i64 x.sort, .int .i64 x.num, .string x.text, .slice D1 x.names.length e1', .slice D2 x.kids.length e2'] 26)) B _ (bs ++ [UInt8.ofNat t.sort.toNat] ++ [UInt8.ofNat t.kids.length] ++ Tree.packS (t.sort == 5) t.names (t.kids.take j))) := HX
              simp only [z5] at hE2 HCU hle
              clear hnd e5 HX HBY
              have x3 := RW.cell 3
              have x0 := RW.cell 0
              have lw := RW.lt
              obtain ⟨nm, hnm⟩ : ∃ nm, t.names[j] = nm := ⟨_, rfl⟩
              rw [hnm] at hca hn8 hsn hle hsl
              clear hnm
              go_wp2_with fail
              refine (packText_any _ nm _ B _ HCU.out (by simp; omega) (by omega) (by simp; omega)).mono ?_
              rintro e w5 ⟨v5, rfl, h5, k5⟩
              have H5 := hide h5
              have K5 := hide (KX.out.trans k5)
              have RX5 := k5.rows _ _ _ RX (by decide)
              have RW5 := k5.rows _ _ _ RW (by decide)
              have B5 := hide (BX.out.trans k5.below)
              clear h5 k5 RX RW x3 x0 lw hca
              have y0' := RX5.cell 0
              have y1' := RX5.cell 1
              have y2' := RX5.cell 2
              have y3' := RX5.cell 3
              have y4' := RX5.cell 4
              have ly := RX5.lt
              have b5 := K5.out.below.size
              go_wp2_with fail
              refine (HC.out _ _ (lv + 1) _ _ B _ H5.out (by omega) (HOT.out.below B5.out HFT.out) HFT.out hgx.out hbx (by simp; omega)).mono ?_
              rintro e w6 ⟨v6, rfl, h6, k6⟩
              have H6 := hide h6
              have K6 := hide (K5.out.trans k6)
              have R6 := hide (k6.rows _ _ _ RW5 (by decide))
              clear h6 k6 RX5 RW5 y0' y1' y2' y3' y4' ly
              go_wp2
              go_roundw
              case rel => exact ⟨j + 1, by omega, by go_num, by rw [z5, hsn.out]; simpa using H6.out, K6.out, R6.out⟩
              case measure => simp [intOf]; omega
            · have z5 : (t.sort == 5) = false := by simp [e5]
              rw [z5] at hsn hle
              simp only [Bool.false_eq_true, if_false, List.length_nil] at hle
              have HCU : Hid (Byt (wr.alloc (.cells #[.int .i64 x.sort, .int .i64 x.num, .string x.text, .slice D1 x.names.length e1', .slice D2 x.kids.length e2'] 26)) B _ (bs ++ [UInt8.ofNat t.sort.toNat] ++ [UInt8.ofNat t.kids.length] ++ Tree.packS (t.sort == 5) t.names (t.kids.take j))) := HX
              simp only [z5] at hE2 HCU hle
              clear e5 HX HBY
              have x0 := RW.cell 0
              have lw := RW.lt
              have bx : (wr.alloc (.cells #[.int .i64 x.sort, .int .i64 x.num, .string x.text, .slice D1 x.names.length e1', .slice D2 x.kids.length e2'] 26)).heap.size = wr.heap.size + 1 := by simp
              go_wp2_with fail
              refine (HC.out _ _ (lv + 1) _ _ B _ HCU.out (by omega) (HOT.out.below BX.out HFT.out) HFT.out hgx.out hbx (by simp; omega)).mono ?_
              rintro e w6 ⟨v6, rfl, h6, k6⟩
              have H6 := hide h6
              have K6 := hide (KX.out.trans k6)
              have R6 := hide (k6.rows _ _ _ RW (by decide))
              clear h6 k6 RX RW x0 lw
              go_wp2
              go_roundw
              case rel => exact ⟨j + 1, by omega, by go_num, by rw [z5, hsn.out]; simpa using H6.out, K6.out, R6.out⟩
              case measure => simp [intOf]; omega
          · obtain rfl : j = t.kids.length := by omega
            have HB2 := HBY
            rw [List.take_length] at HB2
            go_wp2
            go_ret
            exact ⟨_, rfl, by rw [HE.out]; simpa using HB2.out, HKB.out⟩
theorem packTree_any (t : Tree) : PackTree t := Tree.ind packTree_of t
end Go.Proofs.Ytbjblchhenmgjaa
