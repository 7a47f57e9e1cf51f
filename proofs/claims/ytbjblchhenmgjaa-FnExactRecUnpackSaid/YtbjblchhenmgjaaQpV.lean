/-
  The reference's l61Text. Records that are ok, and their bytes: RecOk and RecPack of the program and of the reference. What a reader of records has found: plain laws, and what memory holds on the way.
-/
import Derived.Test.YtbjblchhenmgjaaQpI
import Derived.Test.YtbjblchhenmgjaaQpN
import Derived.Deep.RegionWith
import Derived.Deep.CutRange
import Derived.Deep.DeepCutAuto
import Derived.Test.YtbjblchhenmgjaaQpP
import Derived.Test.YtbjblchhenmgjaaQpJ
import Derived.Test.YtbjblchhenmgjaaQpU
import Derived.Test.YtbjblchhenmgjaaQpE
import Derived.Lib.Strings
set_option linter.unusedVariables false
set_option linter.unusedSimpArgs false
namespace Go.Proofs.Ytbjblchhenmgjaa
open Go.ChangeShapes Go.WideShapes Go.ChangeAt Go.RowKit

theorem conv_one {w : World} {g : Nat} {z : Int} {b : UInt8} (c : Nat) (hz : z = (b.toNat : Int)) (hc : w.cell? ⟨g, 0, none⟩ = some (.int .u8 z)) : (convert 22 9 (.slice (some ⟨g, 0, none⟩) 1 c)).run Try.prog w = .ok (.string (ba [b])) w := by
  subst hz
  refine run_convert_bytes_back w 22 9 5 ⟨g, 0, none⟩ c [b] Try.underlying22 Try.underlying5 Try.underlying9 (fun j hj => ?_)
  match j, hj with
  | 0, _ => simpa [Addr.add] using hc
theorem conv_two (w : World) (z1 z2 : Int) (b1 b2 : UInt8) (hz1 : z1 = (b1.toNat : Int)) (hz2 : z2 = (b2.toNat : Int)) (g c : Nat) (hg : g = w.heap.size) :
    (convert 22 9 (.slice (some ⟨g, 0, none⟩) 2 c)).run Try.prog (w.alloc (.cells #[.int .u8 z1, .int .u8 z2] 5)) = .ok (.string (ba [b1, b2])) (w.alloc (.cells #[.int .u8 z1, .int .u8 z2] 5)) := by
  subst hz1 hz2 hg
  have hr := Row.new w 5 [.int .u8 (b1.toNat : Int), .int .u8 (b2.toNat : Int)]
  refine run_convert_bytes_back _ 22 9 5 ⟨w.heap.size, 0, none⟩ c [b1, b2] Try.underlying22 Try.underlying5 Try.underlying9 (fun j hj => ?_)
  have hadd : (⟨w.heap.size, 0, none⟩ : Addr).add j = ⟨w.heap.size, j, none⟩ := by unfold Addr.add; split <;> simp_all
  rw [hadd]
  refine (hr.cell j).trans ?_
  match j, hj with
  | 0, _ => rfl
  | 1, _ => rfl
  | n + 2, h => simp at h; omega

set_option maxRecDepth 100000 in
set_option maxHeartbeats 2000000 in
theorem specText_any (r : Record) (us : List Value) (fp : List Nat) (w : World) (ho : OwC w r.cells us fp) (hf : Lt fp w.heap.size) (hbk : r.bulk ≤ 1048576) (hfn : r.fine) :
    Calls Try.prog 173 #[.agg us.toArray] w fun e w' => e = .returned (.string (ba r.bytes)) ∧ Below w.heap.size w w' := by
  obtain ⟨A1, c1, f1, rfl, w0, w1, o1, rfl⟩ := ho.oRecord
  obtain ⟨_, hcap, hmx⟩ := o1.nlen
  unfold maxLen at hmx
  have R1 : Row (w.alloc (.cells #[.int .i64 r.pos, .string r.key, .slice A1 r.events.length c1] 39)) w.heap.size 39 [.int .i64 r.pos, .string r.key, .slice A1 r.events.length c1] := Row.new w _ _
  have B1 := hide (show Below w.heap.size w (w.alloc (.cells #[.int .i64 r.pos, .string r.key, .slice A1 r.events.length c1] 39)) from (Below.refl _ _).alloc (Nat.le_refl _) _)
  have O1 := hide o1
  have HFN := hide hfn
  have hkey := hfn.2.1.2.1
  have hkey1 := hfn.2.1.1
  have hel := hfn.2.2.1
  have hsl := short_len r.key
  have hrb := r.bulk_eq
  unfold Event.bulkL at hrb
  have hs255 : r.key.size ≤ 255 := by omega
  have hwv : IntKind.u8.wrap (r.events.length : Int) = (r.events.length : Int) := by simp only [IntKind.wrap, IntKind.bits, IntKind.signed]; simp; omega
  have HV := hide (show (r.events.length : Int) = ((UInt8.ofNat r.events.length).toNat : Int) by rw [u8_of _ (by omega)])
  have hcv1 := fun (u : World) (g : Nat) (hg : g = u.heap.size) (c : Nat) => conv_one (w := u.alloc (.cells #[.int .u8 (r.events.length : Int)] 5)) (g := g) (b := UInt8.ofNat r.events.length) c HV.out (by subst hg; simp)
  have hcv2 := fun (u : World) (g : Nat) (hg : g = u.heap.size) (c : Nat) => conv_one (w := (u.alloc (.cells #[.int .u8 (r.events.length : Int)] 5)).drew) (g := g) (b := UInt8.ofNat r.events.length) c HV.out (by subst hg; simp)
  have ns1 : ¬ (9223372036854775807 < (ba (short r.key)).size + (ba [UInt8.ofNat r.events.length]).size) := by rw [ba_size, ba_size]; simp; omega
  have q1 := R1.cell 1
  have q2 := R1.cell 2
  have lr := R1.lt
  clear ho o1 hfn
  obtain ⟨u2, hu2⟩ : ∃ u2, w.alloc (.cells #[.int .i64 r.pos, .string r.key, .slice A1 r.events.length c1] 39) = u2 := ⟨_, rfl⟩
  go_enter Try.func173, Try.ntmps173
  rw [hu2] at R1 B1 q1 q2 lr
  go_upto_region 1 with fail
  go_cut [3] (fun s3 wx => s3 = .string (ba (short r.key ++ [UInt8.ofNat r.events.length] ++ (r.events.take 0).flatMap Event.part)) ∧ Below w.heap.size w wx ∧ Row wx w.heap.size 39 [.int .i64 r.pos, .string r.key, .slice A1 r.events.length c1])
  case first =>
    go_region_with (first
      | (go_at_call 163; refine (l4Short_any r.key _ hs255).mono ?_; rintro e w5 ⟨v5, rfl, h5, k5⟩; have BX5 := Aft.below (u := u2) (.inl rfl) k5; have RX5 := R1.below BX5 lr; have x1 := RX5.cell 1; have x2 := RX5.cell 2; have cv1 := h5.conv (List.cons_ne_nil _ _); have cv2 := (h5.alloc (.cells #[.int .u8 (r.events.length : Int)] 5)).conv (List.cons_ne_nil _ _))
      | (go_at_call 163; refine (l4Short_any r.key _ hs255).mono ?_; rintro e w5 ⟨v5, rfl, h5, k5⟩; have BX5 := Aft.below (u := u2) (.inr ⟨_, rfl⟩) k5; have RX5 := R1.below BX5 lr; have x1 := RX5.cell 1; have x2 := RX5.cell 2; have cv1 := h5.conv (List.cons_ne_nil _ _); have cv3 := conv_one (b := UInt8.ofNat r.events.length) 1 HV.out (aft_cell k5)))
    all_goals
      go_wp2_with fail
      go_meet
      first
        | exact ⟨by simp [ba_app], B1.out.trans (BX5.mono B1.out.size), RX5⟩
        | exact ⟨by simp [ba_app], (B1.out.trans (BX5.mono B1.out.size)).trans (((Below.refl _ _).alloc (Nat.le_refl _) _).mono (Nat.le_trans B1.out.size BX5.size)), RX5.alloc _⟩
  case rest =>
    obtain ⟨rfl, hb5, hrx⟩ := hcut
    have HB5 := hide hb5
    have HRX := hide hrx
    clear hb5 hrx q1 q2 R1 lr hwv HV ns1 hcv1 hcv2
    go_wp2
    go_loopw [3, 4] (fun s i wr => ∃ j : Nat, j ≤ r.events.length ∧ i = .int .i64 j ∧ s = .string (ba (short r.key ++ [UInt8.ofNat r.events.length] ++ (r.events.take j).flatMap Event.part)) ∧ Below w.heap.size w wr ∧ Row wr w.heap.size 39 [.int .i64 r.pos, .string r.key, .slice A1 r.events.length c1]) (fun _ i _ => r.events.length - (intOf i).toNat)
    case atStart =>
      exact ⟨0, Nat.zero_le _, rfl, by simp, HB5.out, HRX.out⟩
    case round =>
      obtain ⟨j, hj, rfl, rfl, hkw, hrow⟩ := hrel
      have HKB := hide hkw
      have b3 := hkw.size
      clear hkw
      have m2 := hrow.cell 2
      have lm := hrow.lt
      by_cases hlt : j < r.events.length
      · obtain ⟨g, off, ws, fi, rfl, hgm, hfi, hwl, hcs, hov⟩ := (O1.out.below HKB.out hf).elem Event.cells_len hlt
        have HOT := hide hov
        have HFT := hide (hf.sub hfi)
        have hgl := hf _ hgm
        have hgw : g < wr.heap.size := by omega
        have hbx : r.events[j].bulk ≤ 1048576 := by
          have h1 := Event.bulk_at r.events j hlt
          omega
        have hok := HFN.out.2.2.2 j hlt
        have hsn := hide (parts_snoc r.events j hlt)
        have hpl := parts_len (r.events.take j)
        have hpp := Event.part_len r.events[j]
        have hpk := Event.packed_len r.events[j]
        have HNE := hide (Event.packed_ne hok)
        have hne : 1 ≤ r.events[j].packed.length := List.length_pos_iff.2 (Event.packed_ne hok)
        have hpe := hide (show r.events[j].part = [UInt8.ofNat (r.events[j].packed.length / 256), UInt8.ofNat (r.events[j].packed.length % 256)] ++ r.events[j].packed from rfl)
        have hpl : ((r.events.take j).flatMap Event.part).length ≤ 388080 := by rw [List.length_take] at hpl; omega
        obtain ⟨D1, d1, D2, d2, r1, r2, rfl, y0, y1, y2, y3, y4, z1, z2, rfl⟩ := hov.oEvent
        have p0 := hcs 0 _ rfl
        have p1 := hcs 1 _ rfl
        have p2 := hcs 2 _ rfl
        have p3 := hcs 3 _ rfl
        have p4 := hcs 4 _ rfl
        have p5 := hcs 5 _ rfl
        have p6 := hcs 6 _ rfl
        simp only [Nat.add_zero] at p0
        clear hcs hov z1 z2 hfi hok
        obtain ⟨x, hx⟩ : ∃ x, r.events[j] = x := ⟨_, rfl⟩
        rw [hx] at p0 p1 p2 p3 p4 p5 p6 HOT hbx hsn hpp hpk HNE hne hpe
        clear hx
        have hz1 : (x.packed.length : Int) / 256 = ((UInt8.ofNat (x.packed.length / 256)).toNat : Int) := by rw [u8_of _ (by omega)]; omega
        have hz2 : (x.packed.length : Int) % 256 = ((UInt8.ofNat (x.packed.length % 256)).toNat : Int) := by rw [u8_of _ (by omega)]; omega
        have HZ1 := hide hz1
        have HZ2 := hide hz2
        clear hz1 hz2
        go_wp2_with fail
        refine (specEventPack_any x _ _ _ (HOT.out.below (Below.refl _ _) HFT.out) (HFT.out.mono b3) hbx).mono ?_
        rintro e w7 ⟨v7, rfl, h7, k7⟩
        obtain ⟨g7, c7, rfl, hc7⟩ := h7.form HNE.out
        have B7 := hide (HKB.out.trans (k7.mono b3))
        have HR7 := hide (hrow.below k7 lm)
        have cva := fun (u : World) => conv_two u ((x.packed.length : Int) / 256) ((x.packed.length : Int) % 256) (UInt8.ofNat (x.packed.length / 256)) (UInt8.ofNat (x.packed.length % 256)) HZ1.out HZ2.out
        have cvb := (h7.alloc (.cells #[.int .u8 ((x.packed.length : Int) / 256), .int .u8 ((x.packed.length : Int) % 256)] 5)).conv HNE.out
        have HS := hide (show (ba (short r.key ++ [UInt8.ofNat r.events.length] ++ (r.events.take j).flatMap Event.part)).size ≤ 400000 by rw [ba_size]; simp only [List.length_append, List.length_cons, List.length_nil]; omega)
        obtain ⟨cur, hcur⟩ : ∃ cur, ba (short r.key ++ [UInt8.ofNat r.events.length] ++ (r.events.take j).flatMap Event.part) = cur := ⟨_, rfl⟩
        rw [hcur] at HS
        have HCUR := hide hcur
        rw [hcur]
        have hs1 := HS.out
        have hs2 : (ba [UInt8.ofNat (x.packed.length / 256), UInt8.ofNat (x.packed.length % 256)]).size = 2 := rfl
        have hs3 := ba_size x.packed
        have n1 : ¬ (9223372036854775807 < cur.size + (ba [UInt8.ofNat (x.packed.length / 256), UInt8.ofNat (x.packed.length % 256)]).size) := by omega
        have n2 : ¬ (9223372036854775807 < cur.size + (ba [UInt8.ofNat (x.packed.length / 256), UInt8.ofNat (x.packed.length % 256)]).size + (ba x.packed).size) := by omega
        clear h7 k7 hc7 p0 p1 p2 p3 p4 p5 p6 hcur m2 lm hrow hs2 hs3
        go_wp2
        go_roundw
        case rel => exact ⟨j + 1, by omega, by go_num, by rw [hsn.out, hpe.out, ← HCUR.out]; simp only [ba_app, List.append_assoc, ByteArray.append_assoc], B7.out.trans (((Below.refl _ _).alloc (Nat.le_refl _) _).mono B7.out.size), HR7.out.alloc _⟩
        case measure => simp [intOf]; omega
      · obtain rfl : j = r.events.length := by omega
        rw [List.take_length]
        go_wp2
        go_ret
        exact ⟨ret_str (by simp [Record.bytes]), HKB.out⟩
end Go.Proofs.Ytbjblchhenmgjaa
namespace Go.Proofs.Ytbjblchhenmgjaa
open Go.ChangeShapes Go.WideShapes Go.ChangeAt Go.RowKit

theorem Record.bulk_events (r : Record) : Event.bulkS r.events ≤ r.bulk := by
  have h := r.bulk_eq
  unfold Event.bulkL at h
  omega

set_option maxRecDepth 100000 in
set_option maxHeartbeats 1000000 in
theorem recordOk_any (r : Record) (us : List Value) (fp : List Nat) (w : World) (ho : OwC w r.cells us fp) (hf : Lt fp w.heap.size) (hbk : r.bulk ≤ 1048576) :
    Calls Try.prog 174 #[.agg us.toArray] w fun e w' => e = .returned (.bool (tb r.fine)) ∧ Below w.heap.size w w' := by
  have HO := hide ho
  obtain ⟨A1, c1, f1, rfl, w0, w1, o1, rfl⟩ := ho.oRecord
  obtain ⟨_, hcap, hmx⟩ := o1.nlen
  unfold maxLen at hmx
  have R1 : Row (w.alloc (.cells #[.int .i64 r.pos, .string r.key, .slice A1 r.events.length c1] 39)) w.heap.size 39 [.int .i64 r.pos, .string r.key, .slice A1 r.events.length c1] := Row.new w _ _
  have B1 := hide (show Below w.heap.size w (w.alloc (.cells #[.int .i64 r.pos, .string r.key, .slice A1 r.events.length c1] 39)) from (Below.refl _ _).alloc (Nat.le_refl _) _)
  have O1 := hide o1
  have hbe := Nat.le_trans r.bulk_events hbk
  have hrb := r.bulk_eq
  unfold Event.bulkL at hrb
  clear ho o1
  go_enter Try.func174, Try.ntmps174
  go_wp2_with fail
  refine (inRange_any _ _ _ _).mono ?_
  rintro e w' ⟨rfl, rfl⟩
  by_cases h1 : 1 ≤ r.pos ∧ r.pos ≤ 999999
  · rw [tb_true h1]
    have H1 := hide h1
    clear h1
    go_wp2_with fail
    refine (isName_any _ _ w1).mono ?_
    rintro e w' ⟨rfl, rfl⟩
    by_cases h2 : NameOk r.key
    · rw [tb_true h2]
      have H2 := hide h2
      clear h2
      go_wp2_with fail
      refine (inRange_any _ _ _ _).mono ?_
      rintro e w' ⟨rfl, rfl⟩
      by_cases h3 : 1 ≤ (r.events.length : Int) ∧ (r.events.length : Int) ≤ 40
      · rw [tb_true h3]
        have H3 := hide h3
        clear h3
        have HE := hide (show tb r.fine = tb (∀ i (h : i < r.events.length), r.events[i].ok) from congrArg tb (propext ⟨fun h => h.2.2.2, fun h => ⟨H1.out, H2.out, H3.out, h⟩⟩))
        go_wp2_with fail
        refine (recContains_any r.events _ _ _ _ _ (O1.out.below B1.out hf) (hf.up B1.out) hbe).mono ?_
        rintro e w3 ⟨rfl, hb3⟩
        have HB3 := hide (B1.out.trans (hb3.mono B1.out.size))
        by_cases h4 : ∀ i (h : i < r.events.length), r.events[i].ok
        · rw [tb_false (fun h => h h4)]
          rw [tb_true h4] at HE
          clear h4
          go_wp2
          go_ret
          exact ⟨ret_bool HE.out.symm, HB3.out⟩
        · rw [tb_true h4]
          rw [tb_false h4] at HE
          clear h4
          go_wp2
          go_ret
          exact ⟨ret_bool HE.out.symm, HB3.out⟩
      · rw [tb_false h3]
        have HT := hide (tb_false (p := r.fine) (fun h => h3 h.2.2.1))
        clear h3
        go_wp2
        go_ret
        exact ⟨ret_bool HT.out.symm, B1.out⟩
    · rw [tb_false h2]
      have HT := hide (tb_false (p := r.fine) (fun h => h2 h.2.1))
      clear h2
      go_wp2
      go_ret
      exact ⟨ret_bool HT.out.symm, B1.out⟩
  · rw [tb_false h1]
    have HT := hide (tb_false (p := r.fine) (fun h => h1 h.1))
    clear h1
    go_wp2
    go_ret
    exact ⟨ret_bool HT.out.symm, B1.out⟩

set_option maxRecDepth 100000 in
set_option maxHeartbeats 1000000 in
theorem implRecPack_any (r : Record) (us : List Value) (fp : List Nat) (w : World) (ho : OwC w r.cells us fp) (hf : Lt fp w.heap.size) (hbk : r.bulk ≤ 1048576) :
    Calls Try.prog 90 #[.agg us.toArray] w fun e w' => e = .returned (.string r.packed) ∧ Below w.heap.size w w' := by
  have HO := hide ho
  obtain ⟨A1, c1, f1, rfl, w0, w1, o1, rfl⟩ := ho.oRecord
  obtain ⟨_, hcap, hmx⟩ := o1.nlen
  unfold maxLen at hmx
  have R1 : Row (w.alloc (.cells #[.int .i64 r.pos, .string r.key, .slice A1 r.events.length c1] 39)) w.heap.size 39 [.int .i64 r.pos, .string r.key, .slice A1 r.events.length c1] := Row.new w _ _
  have B1 := hide (show Below w.heap.size w (w.alloc (.cells #[.int .i64 r.pos, .string r.key, .slice A1 r.events.length c1] 39)) from (Below.refl _ _).alloc (Nat.le_refl _) _)
  have O1 := hide o1
  have hbe := Nat.le_trans r.bulk_events hbk
  have hrb := r.bulk_eq
  unfold Event.bulkL at hrb
  clear ho o1
  go_enter Try.func90, Try.ntmps90
  go_wp2_with fail
  refine (recordOk_any r _ _ _ (HO.out.below B1.out hf) (hf.up B1.out) hbk).mono ?_
  rintro e w2 ⟨rfl, hb2⟩
  have HB2 := hide (B1.out.trans (hb2.mono B1.out.size))
  have R2 := R1.below hb2 R1.lt
  have q0 := R2.cell 0
  have q1 := R2.cell 1
  have q2 := R2.cell 2
  have lr := R2.lt
  clear hb2
  by_cases h : r.fine
  · rw [tb_true h]
    have H := hide h
    clear h
    go_wp2_with fail
    refine (implPack_any r _ _ _ (HO.out.below HB2.out hf) (hf.up HB2.out) hbk H.out).mono ?_
    rintro e w3 ⟨rfl, hb3⟩
    have HB3 := hide (HB2.out.trans (hb3.mono HB2.out.size))
    have hsz := ba_size r.bytes
    by_cases h5 : (r.bytes.length : Int) ≤ 2000
    · have HE := hide (Record.packed_yes ⟨H.out, h5⟩)
      have hd : decide ((2000 : Int) < ((ba r.bytes).size : Int)) = false := by rw [hsz]; simp; omega
      clear hsz h5
      go_wp2
      go_ret
      exact ⟨ret_str HE.out.symm, HB3.out⟩
    · have HE := hide (Record.packed_no (x := r) (fun hh => h5 hh.2))
      have hd : decide ((2000 : Int) < ((ba r.bytes).size : Int)) = true := by rw [hsz]; simp; omega
      clear hsz h5
      go_wp2
      go_ret
      exact ⟨ret_str HE.out.symm, HB3.out⟩
  · rw [tb_false h]
    have HE := hide (Record.packed_no (x := r) (fun hh => h hh.1))
    clear h
    go_wp2
    go_ret
    exact ⟨ret_str HE.out.symm, HB2.out⟩

set_option maxRecDepth 100000 in
set_option maxHeartbeats 1000000 in
theorem specRecOk_any (r : Record) (us : List Value) (fp : List Nat) (w : World) (ho : OwC w r.cells us fp) (hf : Lt fp w.heap.size) (hbk : r.bulk ≤ 1048576) :
    Calls Try.prog 172 #[.agg us.toArray] w fun e w' => e = .returned (.bool (tb r.ok)) ∧ Below w.heap.size w w' := by
  have HO := hide ho
  obtain ⟨A1, c1, f1, rfl, w0, w1, o1, rfl⟩ := ho.oRecord
  obtain ⟨_, hcap, hmx⟩ := o1.nlen
  unfold maxLen at hmx
  have R1 : Row (w.alloc (.cells #[.int .i64 r.pos, .string r.key, .slice A1 r.events.length c1] 39)) w.heap.size 39 [.int .i64 r.pos, .string r.key, .slice A1 r.events.length c1] := Row.new w _ _
  have B1 := hide (show Below w.heap.size w (w.alloc (.cells #[.int .i64 r.pos, .string r.key, .slice A1 r.events.length c1] 39)) from (Below.refl _ _).alloc (Nat.le_refl _) _)
  have O1 := hide o1
  have hbe := Nat.le_trans r.bulk_events hbk
  have hrb := r.bulk_eq
  unfold Event.bulkL at hrb
  clear ho o1
  go_enter Try.func172, Try.ntmps172
  go_wp2_with fail
  refine (l6In_any _ _ _ _).mono ?_
  rintro e w' ⟨rfl, rfl⟩
  by_cases h1 : 1 ≤ r.pos ∧ r.pos ≤ 999999
  · rw [tb_true h1]
    have H1 := hide h1
    clear h1
    go_wp2_with fail
    refine (l6NameOk_any _ _ w1).mono ?_
    rintro e w' ⟨rfl, rfl⟩
    by_cases h2 : NameOk r.key
    · rw [tb_true h2]
      have H2 := hide h2
      clear h2
      go_wp2_with fail
      refine (l6In_any _ _ _ _).mono ?_
      rintro e w' ⟨rfl, rfl⟩
      by_cases h3 : 1 ≤ (r.events.length : Int) ∧ (r.events.length : Int) ≤ 40
      · rw [tb_true h3]
        have H3 := hide h3
        clear h3
        go_wp2
        go_loopw [3] (fun i wr => (∃ j : Nat, j ≤ r.events.length ∧ i = .int .i64 j ∧ ∀ a (h : a < r.events.length), a < j → r.events[a].ok) ∧ Below w.heap.size w wr ∧ Row wr w.heap.size 39 [.int .i64 r.pos, .string r.key, .slice A1 r.events.length c1]) (fun i _ => r.events.length - (intOf i).toNat)
        case atStart => exact ⟨⟨0, Nat.zero_le _, rfl, fun a h1 h => absurd h (by omega)⟩, B1.out, R1⟩
        case round =>
          obtain ⟨⟨j, hj, rfl, ha⟩, hbw, hrow⟩ := hrel
          have HA := hide ha
          have HB := hide hbw
          have q0 := hrow.cell 0
          have q1 := hrow.cell 1
          have q2 := hrow.cell 2
          have lr := hrow.lt
          clear ha hbw R1
          by_cases hlt : j < r.events.length
          · obtain ⟨g, off, ws, fi, rfl, hgm, hfi, hwl, hcs, hov⟩ := (O1.out.below HB.out hf).elem Event.cells_len hlt
            have HOT := hide hov
            have HFT := hide ((hf.up HB.out).sub hfi)
            have hbx : r.events[j].bulk ≤ 1048576 := by have := Event.bulk_at r.events j hlt; omega
            have hst := hide (fun (hx : r.events[j].ok) (a : Nat) (h : a < r.events.length) (hl : a < j + 1) => show r.events[a].ok from by
              by_cases e : a < j
              · exact HA.out a h e
              · obtain rfl : a = j := by omega
                exact hx)
            have hno := hide (fun (hx : ¬ r.events[j].ok) => tb_false (p := r.ok) (fun hh => hx (hh.1.2.2.2 j hlt)))
            obtain ⟨D1, d1, D2, d2, r1, r2, rfl, y0, y1, y2, y3, y4, z1, z2, rfl⟩ := hov.oEvent
            have p0 := hcs 0 _ rfl
            have p1 := hcs 1 _ rfl
            have p2 := hcs 2 _ rfl
            have p3 := hcs 3 _ rfl
            have p4 := hcs 4 _ rfl
            have p5 := hcs 5 _ rfl
            have p6 := hcs 6 _ rfl
            simp only [Nat.add_zero] at p0
            clear hcs hov z1 z2 hfi
            obtain ⟨x, hx⟩ : ∃ x, r.events[j] = x := ⟨_, rfl⟩
            rw [hx] at p0 p1 p2 p3 p4 p5 p6 HOT hbx hst hno
            clear hx
            go_wp2_with fail
            refine (specEventOk_any x _ _ _ HOT.out HFT.out hbx).mono ?_
            rintro e w2 ⟨rfl, hb2⟩
            have HB2 := hide (HB.out.trans (hb2.mono HB.out.size))
            have HR2 := hide (hrow.below hb2 lr)
            clear hb2 hrow q0 q1 q2 lr
            by_cases hx : x.ok
            · rw [tb_true hx]
              have HX := hide (hst.out hx)
              clear hx
              go_wp2
              go_roundw
              case rel => exact ⟨⟨j + 1, by omega, by go_num, HX.out⟩, HB2.out, HR2.out⟩
              case measure => simp [intOf]; omega
            · rw [tb_false hx]
              have HX := hide (hno.out hx)
              clear hx
              go_wp2
              go_ret
              exact ⟨ret_bool HX.out.symm, HB2.out⟩
          · obtain rfl : j = r.events.length := by omega
            have HF := hide (show r.fine from ⟨H1.out, H2.out, H3.out, fun i h => HA.out i h h⟩)
            go_wp2_with fail
            refine (specText_any r _ _ _ (HO.out.below HB.out hf) (hf.up HB.out) hbk HF.out).mono ?_
            rintro e w3 ⟨rfl, hb3⟩
            have HB3 := hide (HB.out.trans (hb3.mono HB.out.size))
            have hsz := ba_size r.bytes
            have HE := hide (show tb r.ok = tb ((r.bytes.length : Int) ≤ 2000) from congrArg tb (propext ⟨fun h => h.2, fun h => ⟨HF.out, h⟩⟩))
            by_cases h5 : (r.bytes.length : Int) ≤ 2000
            · rw [tb_true h5] at HE
              have hd : decide (((ba r.bytes).size : Int) ≤ 2000) = true := by rw [hsz]; simpa using h5
              clear hsz h5
              go_wp2
              go_ret
              exact ⟨ret_bool HE.out.symm, HB3.out⟩
            · rw [tb_false h5] at HE
              have hd : decide (((ba r.bytes).size : Int) ≤ 2000) = false := by rw [hsz]; simpa using h5
              clear hsz h5
              go_wp2
              go_ret
              exact ⟨ret_bool HE.out.symm, HB3.out⟩
      · rw [tb_false h3]
        have HT := hide (tb_false (p := r.ok) (fun h => h3 h.1.2.2.1))
        clear h3
        go_wp2
        go_ret
        exact ⟨ret_bool HT.out.symm, B1.out⟩
    · rw [tb_false h2]
      have HT := hide (tb_false (p := r.ok) (fun h => h2 h.1.2.1))
      clear h2
      go_wp2
      go_ret
      exact ⟨ret_bool HT.out.symm, B1.out⟩
  · rw [tb_false h1]
    have HT := hide (tb_false (p := r.ok) (fun h => h1 h.1.1))
    clear h1
    go_wp2
    go_ret
    exact ⟨ret_bool HT.out.symm, B1.out⟩

set_option maxRecDepth 100000 in
set_option maxHeartbeats 1000000 in
theorem specRecPack_any (r : Record) (us : List Value) (fp : List Nat) (w : World) (ho : OwC w r.cells us fp) (hf : Lt fp w.heap.size) (hbk : r.bulk ≤ 1048576) :
    Calls Try.prog 88 #[.agg us.toArray] w fun e w' => e = .returned (.string r.packed) ∧ Below w.heap.size w w' := by
  have HO := hide ho
  obtain ⟨A1, c1, f1, rfl, w0, w1, o1, rfl⟩ := ho.oRecord
  obtain ⟨_, hcap, hmx⟩ := o1.nlen
  unfold maxLen at hmx
  have R1 : Row (w.alloc (.cells #[.int .i64 r.pos, .string r.key, .slice A1 r.events.length c1] 39)) w.heap.size 39 [.int .i64 r.pos, .string r.key, .slice A1 r.events.length c1] := Row.new w _ _
  have B1 := hide (show Below w.heap.size w (w.alloc (.cells #[.int .i64 r.pos, .string r.key, .slice A1 r.events.length c1] 39)) from (Below.refl _ _).alloc (Nat.le_refl _) _)
  have O1 := hide o1
  have hbe := Nat.le_trans r.bulk_events hbk
  have hrb := r.bulk_eq
  unfold Event.bulkL at hrb
  clear ho o1
  go_enter Try.func88, Try.ntmps88
  go_wp2_with fail
  refine (specRecOk_any r _ _ _ (HO.out.below B1.out hf) (hf.up B1.out) hbk).mono ?_
  rintro e w2 ⟨rfl, hb2⟩
  have HB2 := hide (B1.out.trans (hb2.mono B1.out.size))
  have R2 := R1.below hb2 R1.lt
  have q0 := R2.cell 0
  have q1 := R2.cell 1
  have q2 := R2.cell 2
  have lr := R2.lt
  clear hb2
  by_cases h : r.ok
  · rw [tb_true h]
    have H := hide h
    have HE := hide (Record.packed_yes h)
    clear h
    go_wp2_with fail
    refine (specText_any r _ _ _ (HO.out.below HB2.out hf) (hf.up HB2.out) hbk H.out.1).mono ?_
    rintro e w3 ⟨rfl, hb3⟩
    have HB3 := hide (HB2.out.trans (hb3.mono HB2.out.size))
    go_wp2
    go_ret
    exact ⟨ret_str HE.out.symm, HB3.out⟩
  · rw [tb_false h]
    have HE := hide (Record.packed_no h)
    clear h
    go_wp2
    go_ret
    exact ⟨ret_str HE.out.symm, HB2.out⟩
end Go.Proofs.Ytbjblchhenmgjaa
namespace Go.Proofs.Ytbjblchhenmgjaa
open Go.ChangeShapes Go.WideShapes Go.ChangeAt Go.RowKit

/-! ### What is read so far -/
/-- so many parts are left to be read, these are read -/
def PartsAt (L : List UInt8) (key : ByteArray) (b : Bool) (k : Nat) (es : List Event) (l : List UInt8) : Prop :=
  (b = false → pRec L = (pParts k es l).map (fun p => ((key, p.1), p.2))) ∧ (b = true → pRec L = none)
theorem PartsAt.start {L l1 l2 : List UInt8} {key : ByteArray} {b1 b2 : Bool} {n : Nat} (h1 : Okr false b1 (pShort L) key l1) (h2 : Okr b1 b2 (pOne l1) (n : Int) l2) : PartsAt L key b2 n [] l2 := by
  have n1 : b1 = true → pRec L = none := fun hb => by
    rcases h1.2 hb with h | h
    · cases h
    · simp only [pRec, h]
  refine ⟨fun hb => ?_, fun hb => ?_⟩
  · have e2 := h2.1 hb
    have e1 := h1.1 e2.1
    simp only [pRec, e1.2, e2.2, Int.toNat_natCast]
  · cases hb1 : b1
    · rcases h2.2 hb with h | h
      · rw [hb1] at h; cases h
      · simp only [pRec, (h1.1 hb1).2, h]
    · exact n1 hb1
/-- a part that is not there -/
theorem PartsAt.gone {L l : List UInt8} {key : ByteArray} {k : Nat} {es : List Event} (h : PartsAt L key false (k + 1) es l) (hp : pPart l = none) : pRec L = none := by
  rw [h.1 rfl]
  simp only [pParts, hp, Option.map_none]
theorem PartsAt.next {L l l' : List UInt8} {key : ByteArray} {k : Nat} {es : List Event} {e : Event} (h : PartsAt L key false (k + 1) es l) (hp : pPart l = some (e, l')) : PartsAt L key false k (es ++ [e]) l' :=
  ⟨fun _ => by rw [h.1 rfl]; simp only [pParts, hp], fun hb => by cases hb⟩
theorem PartsAt.done {L l : List UInt8} {key : ByteArray} {es : List Event} (h : PartsAt L key false 0 es l) : pRec L = some ((key, es), l) := by
  rw [h.1 rfl]
  rfl
/-- the two bytes of a size -/
theorem part_bad1 {l l1 : List UInt8} {b : Bool} {a : Int} (h1 : Okr false b (pOne l) a l1) (hb : b = true) : pPart l = none := by
  rcases h1.2 hb with h | h
  · cases h
  · simp only [pPart, h]
theorem part_bad2 {l l1 l2 : List UInt8} {b1 b2 : Bool} {a c : Int} (h1 : Okr false b1 (pOne l) a l1) (h2 : Okr b1 b2 (pOne l1) c l2) (hb : b2 = true) : pPart l = none := by
  cases hb1 : b1
  · rcases h2.2 hb with h | h
    · rw [hb1] at h; cases h
    · simp only [pPart, (h1.1 hb1).2, h]
  · exact part_bad1 h1 hb1
theorem part_two {l l1 l2 : List UInt8} {b1 : Bool} {a c : Nat} (h1 : Okr false b1 (pOne l) (a : Int) l1) (h2 : Okr b1 false (pOne l1) (c : Int) l2) :
    pPart l = if a * 256 + c ≤ l2.length ∧ unpackB (l2.take (a * 256 + c)) = true then some (unpackE (l2.take (a * 256 + c)), l2.drop (a * 256 + c)) else none := by
  have e2 := h2.1 rfl
  have e1 := h1.1 e2.1
  have e : ((a : Int) * 256 + (c : Int)).toNat = a * 256 + c := by omega
  simp only [pPart, e1.2, e2.2, e]
theorem part_long {l l1 l2 : List UInt8} {b1 : Bool} {a c : Nat} (h1 : Okr false b1 (pOne l) (a : Int) l1) (h2 : Okr b1 false (pOne l1) (c : Int) l2) (h : l2.length < a * 256 + c) : pPart l = none := by
  rw [part_two h1 h2, if_neg (fun hx => by omega)]
theorem part_no {l l1 l2 : List UInt8} {b1 : Bool} {a c : Nat} (h1 : Okr false b1 (pOne l) (a : Int) l1) (h2 : Okr b1 false (pOne l1) (c : Int) l2) (h : unpackB (l2.take (a * 256 + c)) = false) : pPart l = none := by
  rw [part_two h1 h2, if_neg (fun hx => by rw [h] at hx; cases hx.2)]
theorem part_yes {l l1 l2 : List UInt8} {b1 : Bool} {a c : Nat} (h1 : Okr false b1 (pOne l) (a : Int) l1) (h2 : Okr b1 false (pOne l1) (c : Int) l2) (hs : a * 256 + c ≤ l2.length) (h : unpackB (l2.take (a * 256 + c)) = true) :
    pPart l = some (unpackE (l2.take (a * 256 + c)), l2.drop (a * 256 + c)) := by rw [part_two h1 h2, if_pos ⟨hs, h⟩]
theorem kcellR {B : Nat} {W w' : World} {p : Addr} {v : Value} (h : W.cell? p = some v) (hb : Below B W w') (hl : p.block < B) : w'.cell? p = some v := (hb.cell hl).trans h
theorem bz_set {B : Nat} {w w' : World} {b i : Nat} {u : Value} (h : Below B w w') (hb : B ≤ b) : Below B w (w'.setCell ⟨b, i, none⟩ u) := h.setCell (p := ⟨b, i, none⟩) hb u
theorem bz_bw {w w' : World} {t : TypeId} {s : ByteArray} (h : Below w.heap.size w w') : Below w.heap.size w (Lib.bytesWorld w' t s) := h.trans ((bw_below w' t s).mono h.size)
theorem bz_alloc {w w' : World} {o : Obj} (h : Below w.heap.size w w') : Below w.heap.size w (w'.alloc o) := h.alloc h.size o
theorem bz_drew {w w' : World} (h : Below w.heap.size w w') : Below w.heap.size w w'.drew := h.drew
theorem size_da (w : World) (o : Obj) : (w.alloc o).drew.heap.size = w.heap.size + 1 := World.size_alloc w o
theorem rowZ (w : World) (t e : TypeId) (s : ByteArray) (cs : List Value) : Row (Lib.bytesWorld ((w.alloc (.cells cs.toArray e)).drew) t s) w.heap.size e cs := by
  have h : Row ((w.alloc (.cells cs.toArray e)).drew) w.heap.size e cs := Row.new w e cs
  exact h.below (bw_below _ t s) (by rw [size_da]; exact Nat.lt_succ_self _)
theorem RdS.skip {w : World} {g : Nat} {L l : List UInt8} {bad : Bool} {A : Option Addr} {c n : Nat} (h : RdS w g L l bad) (hr : Row w g 109 [.slice A L.length c, .int .i64 (n : Int), .bool bad]) (sz : Nat) (hsz : n + sz ≤ L.length) :
    RdS (w.setCell ⟨g, 1, none⟩ (.int .i64 ((n + sz : Nat) : Int))) g L (l.drop sz) bad := by
  obtain ⟨A2, c2, n2, fp, hr2, ho, hfp, hn, hL, hl⟩ := h
  have e := hr.symm.trans hr2
  injection e with e
  injection e with e _ _
  have e2 := congrArg Array.toList e
  simp only [List.cons.injEq, Value.slice.injEq, Value.int.injEq, true_and, and_true] at e2
  obtain ⟨⟨rfl, rfl⟩, e3⟩ := e2
  obtain rfl : n = n2 := by omega
  have hg := only_setCell (p := ⟨g, 1, none⟩) (grown_refl w (some g)) (.inl rfl) (.int .i64 ((n + sz : Nat) : Int))
  exact ⟨A, c, n + sz, fp, hr.set 1 _, ho.below (below_of_grown hg (Nat.le_refl g) (Nat.le_of_lt hr.lt)) hfp, hfp, hsz, hL, by rw [hl, List.drop_drop]⟩
/-- the event that is appended: no block of it is another's -/
theorem recNew {w8 wc : World} {bR : Nat} {v : Value} {es : List Event} {us : List Value} {fi fq : List Nat} (h : OwS w8 (bR + 1) 28 7 Event.cells v es us fi) (hb : Below w8.heap.size w8 wc) (hn : New wc fq w8.heap.size) (hlo : bR < w8.heap.size) (o : Obj) :
    New (wc.alloc o) (fi ++ fq) (bR + 1) ∧ ∀ g, v.ownBlock = some g → g ∉ fq := by
  refine ⟨((h.new.below hb h.new.lt).alloc o).app (hn.alloc o) h.new.lt (by omega), fun g hg => hn.out (h.lt g hg)⟩
theorem BytesAt.ow {w : World} {B : Option Addr} {m c : Nat} {xs : List UInt8} (h : BytesAt w B m xs) (hc : m ≤ c ∧ c ≤ maxLen) : ∃ fp, Ow w (.s 1 xs.length (xs.flatMap byteC)) (.slice B m c) fp ∧ Lt fp w.heap.size := by
  obtain ⟨rfl, h0 | ⟨gb, o, rfl, hlt, hcell⟩⟩ := h
  · obtain rfl := List.eq_nil_of_length_eq_zero h0
    exact ⟨[], bytes_nil hc.2, Lt.nil _⟩
  · obtain ⟨fp, ho, hf⟩ := bytes_mk hcell hc.1 hc.2
    exact ⟨fp, ho, fun b hb => by rw [hf b hb]; exact hlt⟩
theorem or_byteR (n b m : Nat) (hn : n < 65536) (hb : b < 256) (hm : n * 256 + b = m) : bits .or .i64 ((n : Int) * 256) (b : Int) = ((m : Nat) : Int) := by
  have h := or_nat (n * 256) b (by omega) (by omega)
  have h2 : n * 256 + b = n * 256 ||| b := by
    have := Nat.shiftLeft_add_eq_or_of_lt (i := 8) (b := b) (by simpa using hb) n
    simpa [Nat.shiftLeft_eq] using this
  rw [← hm, h2, ← h]
  simp
/-- a size and what was taken: when the part is there -/
theorem part_take {l l1 l2 xs l5 : List UInt8} {b1 b2 b5 : Bool} {a c m : Nat} (hm : a * 256 + c = m) (h1 : Okr false b1 (pOne l) (a : Int) l1) (h2 : Okr b1 b2 (pOne l1) (c : Int) l2)
    (ht : (m ≤ l2.length ∧ xs = l2.take m ∧ l5 = l2.drop m ∧ b5 = b2) ∨ (l2.length < m ∧ xs = List.replicate m 0 ∧ l5 = l2 ∧ b5 = true)) :
    ((b5 = true ∨ unpackB xs = false) → pPart l = none) ∧ (b5 = false → unpackB xs = true → pPart l = some (unpackE xs, l5) ∧ l5.length ≤ l.length ∧ xs.length ≤ l.length) := by
  subst hm
  rcases ht with ⟨hl, rfl, rfl, rfl⟩ | ⟨hl, rfl, rfl, rfl⟩
  · constructor
    · rintro (hb | hb)
      · exact part_bad2 h1 h2 hb
      · cases hb2 : b5
        · subst hb2
          exact part_no h1 h2 hb
        · exact part_bad2 h1 h2 hb2
    · intro hb hu
      subst hb
      refine ⟨part_yes h1 h2 hl hu, ?_, ?_⟩
      all_goals
        have e2 := h2.1 rfl
        have e1 := h1.1 e2.1
        have k1 := pOne_bulk e1.2
        have k2 := pOne_bulk e2.2
        simp only [List.length_drop, List.length_take]
        omega
  · constructor
    · intro _
      cases hb2 : b2
      · subst hb2
        exact part_long h1 h2 hl
      · exact part_bad2 h1 h2 hb2
    · intro hb
      cases hb
theorem unrec_gone {p : Int} {s : ByteArray} (h : pRec s.data.toList = none) : unrecR p s = Record.none_ ∧ unrecB p s = false := unrec_bad h
/-- the answer behind the loop -/
theorem unrec_left {p : Int} {s key : ByteArray} {b : Bool} {es : List Event} {l : List UInt8} (h : PartsAt s.data.toList key b 0 es l) (hn : Record.packed ⟨p, key, es⟩ ≠ s) : unrecR p s = Record.none_ ∧ unrecB p s = false := by
  cases b
  · exact unrec_other (x := ⟨p, key, es⟩) rfl h.done hn
  · exact unrec_bad (h.2 rfl)
theorem Event.bulkS_app (l : List Event) (e : Event) : Event.bulkS (l ++ [e]) = Event.bulkS l + e.bulk := by rw [Event.bulkS_append]; simp [Event.bulkS]

/-! ### What memory holds -/
def recZ : List Value := [.int .i64 0, .string .empty, .slice none 0 0]
structure RecAt (w W : World) (bR : Nat) (p : Int) (key : ByteArray) (v : Value) (es : List Event) (us : List Value) (fi : List Nat) : Prop where
  zero : Row W w.heap.size 39 [.int .i64 0, .string .empty, .slice none 0 0]
  box : Row W bR 39 [.int .i64 p, .string key, v]
  evs : OwS W (bR + 1) 28 7 Event.cells v es us fi
  below : Below w.heap.size w W
  ord : w.heap.size < bR
section
variable {w W W' : World} {bR : Nat} {p : Int} {key : ByteArray} {v v' : Value} {es es' : List Event} {us us' : List Value} {fi fi' : List Nat}
theorem RecAt.step (h : RecAt w W bR p key v es us fi) (hb : Below W.heap.size W W') : RecAt w W' bR p key v es us fi :=
  ⟨h.zero.below hb h.zero.lt, h.box.below hb h.box.lt, h.evs.below (C := 0) hb, h.below.trans (hb.mono h.below.size), h.ord⟩
theorem RecAt.far (h : RecAt w W bR p key v es us fi) {g : Nat} (hg : W.grownBy W' (some g)) (h1 : w.heap.size < g) (h2 : g < bR) : RecAt w W' bR p key v es us fi :=
  ⟨h.zero.grown hg (fun e => by injection e with e; omega), h.box.grown hg (fun e => by injection e with e; omega),
    h.evs.kept hg (fun x e => by injection e with e; subst e; exact ⟨h.evs.nlow (by omega), h.evs.low (by omega)⟩), h.below.trans (below_of_grown hg (Nat.le_of_lt h1) h.below.size), h.ord⟩
/-- an event more -/
theorem RecAt.put (h : RecAt w W bR p key v es us fi) (hg : GB W W' v v') (hn : OwS W' (bR + 1) 28 7 Event.cells v' es' us' fi') : RecAt w (W'.setCell ⟨bR, 2, none⟩ v') bR p key v' es' us' fi' := by
  have hbl := h.box.lt
  have hlo : v.ownBlock ≠ some bR := h.evs.low (Nat.lt_succ_self _)
  have hlz : v.ownBlock ≠ some w.heap.size := h.evs.low (by have := h.ord; omega)
  have hb1 : Below w.heap.size W W' := hg.toBelow h.below.size (fun g e => by have := h.evs.from e; have := h.ord; omega)
  refine ⟨(hg.row h.zero hlz).far (by have := h.ord; simp; omega) _, (hg.row h.box hlo).set 2 v', hn.setCell (hn.nlow (Nat.lt_succ_self _)) (hn.low (Nat.lt_succ_self _)) _, h.below.trans (hb1.setCell (p := ⟨bR, 2, none⟩) (Nat.le_of_lt h.ord) _), h.ord⟩
/-- the record that is there -/
theorem RecAt.ow (h : RecAt w W bR p key v es us fi) (hp : (Lit.int .i64 p).wf = true) (hk : key.size ≤ maxLen) : ∃ fq, OwC W (Record.mk p key es).cells [.int .i64 p, .string key, v] fq ∧ New W fq (bR + 1) := by
  obtain ⟨fq, ho, hn⟩ := h.evs.toOw
  obtain ⟨A, c, rfl⟩ := h.evs.form
  exact ⟨fq, OwC.mRecord (x := ⟨p, key, es⟩) hp hk ho, hn⟩
/-- the result's block is filled -/
theorem recFin {fq : List Nat} {x : Record} {vs : List Value} (hz : Row W w.heap.size 39 [.int .i64 0, .string .empty, .slice none 0 0]) (hb : Below w.heap.size w W) (ho : OwC W x.cells us fq) (hn : New W fq (w.heap.size + 1)) :
    OwC (putN W w.heap.size 0 vs) x.cells us fq ∧ New (putN W w.heap.size 0 vs) fq w.heap.size ∧ Below w.heap.size w (putN W w.heap.size 0 vs) := by
  have hgr := setN_grown vs 0 (grown_refl W (some w.heap.size))
  have hno : w.heap.size ∉ fq := hn.out (Nat.lt_succ_self _)
  exact ⟨ho.grown hgr hn.lt hno, (hn.grown hgr (fun b e => by injection e with e; subst e; exact hno)).mono (by omega), hb.trans (below_of_grown hgr (Nat.le_refl _) hb.size)⟩
theorem recNone (hb : Below w.heap.size w W) (vs : List Value) :
    OwC (putN W w.heap.size 0 vs) Record.none_.cells [.int .i64 0, .string .empty, .slice none 0 0] [] ∧ New (putN W w.heap.size 0 vs) [] w.heap.size ∧ Below w.heap.size w (putN W w.heap.size 0 vs) :=
  ⟨OwC.mRecord (x := Record.none_) (v1 := .slice none 0 0) (f1 := []) wfz empty_le (Ow.nil_ _ 7 Event.cells), New.nil _ _, hb.trans (below_of_grown (setN_grown vs 0 (grown_refl W (some w.heap.size))) (Nat.le_refl _) hb.size)⟩
end
def RecOut (p : Int) (s : ByteArray) (w : World) (e : Ending) (w' : World) : Prop :=
  ∃ us fq, e = .returned (.tuple #[.agg us.toArray, .bool (unrecB p s)]) ∧ OwC w' (unrecR p s).cells us fq ∧ New w' fq w.heap.size ∧ Below w.heap.size w w'
/-- a text's bytes, in a row of their own -/
theorem conv_ow (w : World) (s : ByteArray) (hs : s.size ≤ 1048576) :
    ∃ fp, Ow (Lib.bytesWorld w 5 s) (.s 1 s.data.toList.length (s.data.toList.flatMap byteC)) (.slice (some ⟨w.heap.size, 0, none⟩) s.size (grownCap w s.size 0 5)) fp ∧ ∀ b ∈ fp, b = w.heap.size := by
  have hl : s.data.toList.length = s.size := by rw [Array.length_toList]; rfl
  have h := bytes_mk (W := Lib.bytesWorld w 5 s) (gb := w.heap.size) (o := 0) (c := grownCap w s.size 0 5) (xs := s.data.toList) (fun j hj => by
    have h := bw_cells w 5 s w.heap.size rfl j (.int .u8 ((s.data.toList[j]).toNat : Int)) (by simp only [u8s, List.getElem?_map, List.getElem?_eq_getElem hj, Option.map_some])
    rw [Addr.add_lit] at h
    exact h) (by rw [hl]; exact grownCap_ge _ _ _ _) (grownCap_le_maxLen _ _ _ _ (by unfold maxLen; omega))
  rw [hl] at h ⊢
  exact h
theorem rdS_start (w1 : World) (s : ByteArray) (hs : s.size ≤ 2000) (g : Nat) (hg : w1.heap.size + 1 = g) :
    RdS ((Lib.bytesWorld w1 5 s).alloc (.cells #[.slice (some ⟨w1.heap.size, 0, none⟩) s.size (grownCap w1 s.size 0 5), .int .i64 0, .bool false] 109)) g s.data.toList s.data.toList false ∧
    Below w1.heap.size w1 ((Lib.bytesWorld w1 5 s).alloc (.cells #[.slice (some ⟨w1.heap.size, 0, none⟩) s.size (grownCap w1 s.size 0 5), .int .i64 0, .bool false] 109)) := by
  subst hg
  have hl : s.data.toList.length = s.size := by rw [Array.length_toList]; rfl
  obtain ⟨fp, ho, hf⟩ := conv_ow w1 s (by omega)
  have hbb := bw_below w1 5 s
  have hsz := Lib.bytesWorld_size w1 5 s
  refine ⟨⟨some ⟨w1.heap.size, 0, none⟩, grownCap w1 s.size 0 5, 0, fp, ?_, ?_, fun b hb => by rw [hf b hb]; omega, Nat.zero_le _, by omega, rfl⟩, hbb.alloc hbb.size _⟩
  · rw [hl]
    exact Row.atU _ _ [.slice (some ⟨w1.heap.size, 0, none⟩) s.size (grownCap w1 s.size 0 5), .int .i64 0, .bool false] _ hsz
  · rw [hl] at ho ⊢
    exact ho.alloc (fun b hb => by rw [hf b hb, hsz]; omega) _
theorem rdI_start (w1 : World) (s : ByteArray) (hs : s.size ≤ 2000) (g : Nat) (hg : w1.heap.size + 1 = g) :
    RdI ((Lib.bytesWorld w1 5 s).alloc (.cells #[.slice (some ⟨w1.heap.size, 0, none⟩) s.size (grownCap w1 s.size 0 5), .bool false] 117)) g s.data.toList s.data.toList false ∧
    Below w1.heap.size w1 ((Lib.bytesWorld w1 5 s).alloc (.cells #[.slice (some ⟨w1.heap.size, 0, none⟩) s.size (grownCap w1 s.size 0 5), .bool false] 117)) := by
  subst hg
  have hl : s.data.toList.length = s.size := by rw [Array.length_toList]; rfl
  obtain ⟨fp, ho, hf⟩ := conv_ow w1 s (by omega)
  have hbb := bw_below w1 5 s
  have hsz := Lib.bytesWorld_size w1 5 s
  refine ⟨⟨some ⟨w1.heap.size, 0, none⟩, grownCap w1 s.size 0 5, fp, ?_, ?_, fun b hb => by rw [hf b hb]; omega, by omega⟩, hbb.alloc hbb.size _⟩
  · rw [hl]
    exact Row.atU _ _ [.slice (some ⟨w1.heap.size, 0, none⟩) s.size (grownCap w1 s.size 0 5), .bool false] _ hsz
  · rw [hl] at ho ⊢
    exact ho.alloc (fun b hb => by rw [hf b hb, hsz]; omega) _
theorem sub_bytes (s : ByteArray) (n m : Nat) (h : n + m ≤ s.size) : (s.extract n (n + m)).data.toList = (s.data.toList.drop n).take m := by
  rw [Lib.extract_data, Nat.add_sub_cancel_left]
/-- what EventUnpack hands back, its cells written out -/
def EvRet (ev : Event) (ub : Bool) (W : World) (e : Ending) (w' : World) : Prop :=
  ∃ (A1 : Option Addr) (c1 : Nat) (A2 : Option Addr) (c2 : Nat) (fq : List Nat), e = .returned (.tuple #[.agg #[.string ev.type_, .int .i64 ev.version, .int .i64 ev.body.sort, .int .i64 ev.body.num, .string ev.body.text, .slice A1 ev.body.names.length c1, .slice A2 ev.body.kids.length c2], .bool ub]) ∧
    OwC w' ev.cells [.string ev.type_, .int .i64 ev.version, .int .i64 ev.body.sort, .int .i64 ev.body.num, .string ev.body.text, .slice A1 ev.body.names.length c1, .slice A2 ev.body.kids.length c2] fq ∧ New w' fq W.heap.size ∧ Below W.heap.size W w'
theorem EvRet.of {l : List UInt8} {W w' : World} {e : Ending} (h : UnpOut l W e w') : EvRet (unpackE l) (unpackB l) W e w' := by
  obtain ⟨us, fq, rfl, ho, hn, hb⟩ := h
  obtain ⟨A1, c1, A2, c2, f1, f2, rfl, -, -, -, -, -, -, -, -⟩ := id ho.oEvent
  exact ⟨A1, c1, A2, c2, fq, rfl, ho, hn, hb⟩
theorem evMeet {ev : Event} {w8 w9 wx : World} {A1 A2 : Option Addr} {c1 c2 : Nat} {fq : List Nat} {bx : Nat} (ho : OwC w9 ev.cells [.string ev.type_, .int .i64 ev.version, .int .i64 ev.body.sort, .int .i64 ev.body.num, .string ev.body.text, .slice A1 ev.body.names.length c1, .slice A2 ev.body.kids.length c2] fq) (hn : New w9 fq (w8.heap.size + 1)) (hg : w9.grownBy wx (some bx)) (hb : bx ∉ fq) (hlo : w8.heap.size ≤ bx) (h8 : Below w8.heap.size w8 w9) :
    OwC wx ev.cells [.string ev.type_, .int .i64 ev.version, .int .i64 ev.body.sort, .int .i64 ev.body.num, .string ev.body.text, .slice A1 ev.body.names.length c1, .slice A2 ev.body.kids.length c2] fq ∧ New wx fq w8.heap.size ∧ bx ∉ fq ∧ w8.heap.size ≤ bx ∧ Below w8.heap.size w8 wx :=
  ⟨ho.grown hg hn.lt hb, (hn.grown hg (fun b e => by injection e with e; subst e; exact hb)).mono (Nat.le_succ _), hb, hlo, h8.trans (below_of_grown hg hlo h8.size)⟩
/-- EventUnpack behind a conversion -/
theorem conv_later {W W' : World} {sub : ByteArray} {l : List UInt8} (hl : sub.data.toList = l) (hs : sub.size ≤ 65535) (g c : Nat) (hg : g = W.heap.size) (hc : c = grownCap W sub.size 0 5) (hb : Below (W.heap.size + 1) (Lib.bytesWorld W 5 sub) W') :
    ∃ fp, Ow W' (.s 1 l.length (l.flatMap byteC)) (.slice (some ⟨g, 0, none⟩) sub.size c) fp ∧ Lt fp W'.heap.size := by
  subst hg hc hl
  obtain ⟨fp, ho, hf⟩ := conv_ow W sub (by omega)
  have hsz := Lib.bytesWorld_size W 5 sub
  have hlt : Lt fp (W.heap.size + 1) := fun b h => by rw [hf b h]; omega
  exact ⟨fp, ho.below hb hlt, hlt.mono (by have := hb.size; omega)⟩
end Go.Proofs.Ytbjblchhenmgjaa
