/-
  The reference's l61Text.
-/
import Derived.Test.YtfllacpmbcamkaaRec
import Derived.Test.YtfllacpmbcamkaaMark
import Derived.Deep.RegionWith
import Derived.Deep.CutRange
import Derived.Deep.DeepCutAuto
set_option linter.unusedVariables false
set_option linter.unusedSimpArgs false
namespace Go.Proofs.Ytfllacpmbcamkaa
open Go.ChangeShapes Go.WideShapes Go.ChangeAt Go.RowKit

theorem conv_one {w : World} {g : Nat} {z : Int} {b : UInt8} (c : Nat) (hz : z = (b.toNat : Int)) (hc : w.cell? ⟨g, 0, none⟩ = some (.int .u8 z)) : (convert 82 9 (.slice (some ⟨g, 0, none⟩) 1 c)).run Try.prog w = .ok (.string (ba [b])) w := by
  subst hz
  refine run_convert_bytes_back w 82 9 5 ⟨g, 0, none⟩ c [b] Try.underlying82 Try.underlying5 Try.underlying9 (fun j hj => ?_)
  match j, hj with
  | 0, _ => simpa [Addr.add] using hc
theorem conv_two (w : World) (z1 z2 : Int) (b1 b2 : UInt8) (hz1 : z1 = (b1.toNat : Int)) (hz2 : z2 = (b2.toNat : Int)) (g c : Nat) (hg : g = w.heap.size) :
    (convert 82 9 (.slice (some ⟨g, 0, none⟩) 2 c)).run Try.prog (w.alloc (.cells #[.int .u8 z1, .int .u8 z2] 5)) = .ok (.string (ba [b1, b2])) (w.alloc (.cells #[.int .u8 z1, .int .u8 z2] 5)) := by
  subst hz1 hz2 hg
  have hr := Row.new w 5 [.int .u8 (b1.toNat : Int), .int .u8 (b2.toNat : Int)]
  refine run_convert_bytes_back _ 82 9 5 ⟨w.heap.size, 0, none⟩ c [b1, b2] Try.underlying82 Try.underlying5 Try.underlying9 (fun j hj => ?_)
  have hadd : (⟨w.heap.size, 0, none⟩ : Addr).add j = ⟨w.heap.size, j, none⟩ := by unfold Addr.add; split <;> simp_all
  rw [hadd]
  refine (hr.cell j).trans ?_
  match j, hj with
  | 0, _ => rfl
  | 1, _ => rfl
  | n + 2, h => simp at h; omega

set_option maxRecDepth 100000 in
set_option maxHeartbeats 2000000 in
theorem specText_any (r : Record) (us : List Value) (fp : List Nat) (w : World) (ho : OwC w r.cells us fp) (hf : Lt fp w.heap.size) (hbk : r.bulk ≤ 1048576) (hfn : r.fine) :
    Calls Try.prog 81 #[.agg us.toArray] w fun e w' => e = .returned (.string (ba r.bytes)) ∧ Below w.heap.size w w' := by
  obtain ⟨A1, c1, f1, rfl, w0, w1, o1, rfl⟩ := ho.oRecord
  obtain ⟨_, hcap, hmx⟩ := o1.nlen
  unfold maxLen at hmx
  have R1 : Row (w.alloc (.cells #[.int .i64 r.pos, .string r.key, .slice A1 r.events.length c1] 60)) w.heap.size 60 [.int .i64 r.pos, .string r.key, .slice A1 r.events.length c1] := Row.new w _ _
  have B1 := hide (show Below w.heap.size w (w.alloc (.cells #[.int .i64 r.pos, .string r.key, .slice A1 r.events.length c1] 60)) from (Below.refl _ _).alloc (Nat.le_refl _) _)
  have O1 := hide o1
  have HFN := hide hfn
  have hkey := hfn.2.1.2.1
  have hkey1 := hfn.2.1.1
  have hel := hfn.2.2.1
  have hsl := short_len r.key
  have hrb := r.bulk_eq
  unfold Event.bulkL at hrb
  have hs255 : r.key.size ≤ 255 := by omega
  have hwv : IntKind.u8.wrap (r.events.length : Int) = (r.events.length : Int) := by simp only [IntKind.wrap, IntKind.bits, IntKind.signed]; simp; omega
  have HV := hide (show (r.events.length : Int) = ((UInt8.ofNat r.events.length).toNat : Int) by rw [u8_of _ (by omega)])
  have hcv1 := fun (u : World) (g : Nat) (hg : g = u.heap.size) (c : Nat) => conv_one (w := u.alloc (.cells #[.int .u8 (r.events.length : Int)] 5)) (g := g) (b := UInt8.ofNat r.events.length) c HV.out (by subst hg; simp)
  have hcv2 := fun (u : World) (g : Nat) (hg : g = u.heap.size) (c : Nat) => conv_one (w := (u.alloc (.cells #[.int .u8 (r.events.length : Int)] 5)).drew) (g := g) (b := UInt8.ofNat r.events.length) c HV.out (by subst hg; simp)
  have ns1 : ¬ (9223372036854775807 < (ba (short r.key)).size + (ba [UInt8.ofNat r.events.length]).size) := by rw [ba_size, ba_size]; simp; omega
  have q1 := R1.cell 1
  have q2 := R1.cell 2
  have lr := R1.lt
  clear ho o1 hfn
  obtain ⟨u2, hu2⟩ : ∃ u2, w.alloc (.cells #[.int .i64 r.pos, .string r.key, .slice A1 r.events.length c1] 60) = u2 := ⟨_, rfl⟩
  go_enter Try.func81, Try.ntmps81
  rw [hu2] at R1 B1 q1 q2 lr
  go_upto_region 1 with fail
  go_cut [3] (fun s3 wx => s3 = .string (ba (short r.key ++ [UInt8.ofNat r.events.length] ++ (r.events.take 0).flatMap Event.part)) ∧ Below w.heap.size w wx ∧ Row wx w.heap.size 60 [.int .i64 r.pos, .string r.key, .slice A1 r.events.length c1])
  case first =>
    go_region_with (first
      | (go_at_call 104; refine (l4Short_any r.key _ hs255).mono ?_; rintro e w5 ⟨v5, rfl, h5, k5⟩; have BX5 := Aft.below (u := u2) (.inl rfl) k5; have RX5 := R1.below BX5 lr; have x1 := RX5.cell 1; have x2 := RX5.cell 2; have cv1 := h5.conv (List.cons_ne_nil _ _); have cv2 := (h5.alloc (.cells #[.int .u8 (r.events.length : Int)] 5)).conv (List.cons_ne_nil _ _))
      | (go_at_call 104; refine (l4Short_any r.key _ hs255).mono ?_; rintro e w5 ⟨v5, rfl, h5, k5⟩; have BX5 := Aft.below (u := u2) (.inr ⟨_, rfl⟩) k5; have RX5 := R1.below BX5 lr; have x1 := RX5.cell 1; have x2 := RX5.cell 2; have cv1 := h5.conv (List.cons_ne_nil _ _); have cv3 := conv_one (b := UInt8.ofNat r.events.length) 1 HV.out (aft_cell k5)))
    all_goals
      go_wp2_with fail
      go_meet
      first
        | exact ⟨by simp [ba_app], B1.out.trans (BX5.mono B1.out.size), RX5⟩
        | exact ⟨by simp [ba_app], (B1.out.trans (BX5.mono B1.out.size)).trans (((Below.refl _ _).alloc (Nat.le_refl _) _).mono (Nat.le_trans B1.out.size BX5.size)), RX5.alloc _⟩
  case rest =>
    obtain ⟨rfl, hb5, hrx⟩ := hcut
    have HB5 := hide hb5
    have HRX := hide hrx
    clear hb5 hrx q1 q2 R1 lr hwv HV ns1 hcv1 hcv2
    go_wp2
    go_loopw [3, 4] (fun s i wr => ∃ j : Nat, j ≤ r.events.length ∧ i = .int .i64 j ∧ s = .string (ba (short r.key ++ [UInt8.ofNat r.events.length] ++ (r.events.take j).flatMap Event.part)) ∧ Below w.heap.size w wr ∧ Row wr w.heap.size 60 [.int .i64 r.pos, .string r.key, .slice A1 r.events.length c1]) (fun _ i _ => r.events.length - (intOf i).toNat)
    case atStart =>
      exact ⟨0, Nat.zero_le _, rfl, by simp, HB5.out, HRX.out⟩
    case round =>
      obtain ⟨j, hj, rfl, rfl, hkw, hrow⟩ := hrel
      have HKB := hide hkw
      have b3 := hkw.size
      clear hkw
      have m2 := hrow.cell 2
      have lm := hrow.lt
      by_cases hlt : j < r.events.length
      · obtain ⟨g, off, ws, fi, rfl, hgm, hfi, hwl, hcs, hov⟩ := (O1.out.below HKB.out hf).elem Event.cells_len hlt
        have HOT := hide hov
        have HFT := hide (hf.sub hfi)
        have hgl := hf _ hgm
        have hgw : g < wr.heap.size := by omega
        have hbx : r.events[j].bulk ≤ 1048576 := by
          have h1 := Event.bulk_at r.events j hlt
          omega
        have hok := HFN.out.2.2.2 j hlt
        have hsn := hide (parts_snoc r.events j hlt)
        have hpl := parts_len (r.events.take j)
        have hpp := Event.part_len r.events[j]
        have hpk := Event.packed_len r.events[j]
        have HNE := hide (Event.packed_ne hok)
        have hne : 1 ≤ r.events[j].packed.length := List.length_pos_iff.2 (Event.packed_ne hok)
        have hpe := hide (show r.events[j].part = [UInt8.ofNat (r.events[j].packed.length / 256), UInt8.ofNat (r.events[j].packed.length % 256)] ++ r.events[j].packed from rfl)
        have hpl : ((r.events.take j).flatMap Event.part).length ≤ 388080 := by rw [List.length_take] at hpl; omega
        obtain ⟨D1, d1, D2, d2, r1, r2, rfl, y0, y1, y2, y3, y4, z1, z2, rfl⟩ := hov.oEvent
        have p0 := hcs 0 _ rfl
        have p1 := hcs 1 _ rfl
        have p2 := hcs 2 _ rfl
        have p3 := hcs 3 _ rfl
        have p4 := hcs 4 _ rfl
        have p5 := hcs 5 _ rfl
        have p6 := hcs 6 _ rfl
        simp only [Nat.add_zero] at p0
        clear hcs hov z1 z2 hfi hok
        obtain ⟨x, hx⟩ : ∃ x, r.events[j] = x := ⟨_, rfl⟩
        rw [hx] at p0 p1 p2 p3 p4 p5 p6 HOT hbx hsn hpp hpk HNE hne hpe
        clear hx
        have hz1 : (x.packed.length : Int) / 256 = ((UInt8.ofNat (x.packed.length / 256)).toNat : Int) := by rw [u8_of _ (by omega)]; omega
        have hz2 : (x.packed.length : Int) % 256 = ((UInt8.ofNat (x.packed.length % 256)).toNat : Int) := by rw [u8_of _ (by omega)]; omega
        have HZ1 := hide hz1
        have HZ2 := hide hz2
        clear hz1 hz2
        go_wp2_with fail
        refine (specEventPack_any x _ _ _ (HOT.out.below (Below.refl _ _) HFT.out) (HFT.out.mono b3) hbx).mono ?_
        rintro e w7 ⟨v7, rfl, h7, k7⟩
        obtain ⟨g7, c7, rfl, hc7⟩ := h7.form HNE.out
        have B7 := hide (HKB.out.trans (k7.mono b3))
        have HR7 := hide (hrow.below k7 lm)
        have cva := fun (u : World) => conv_two u ((x.packed.length : Int) / 256) ((x.packed.length : Int) % 256) (UInt8.ofNat (x.packed.length / 256)) (UInt8.ofNat (x.packed.length % 256)) HZ1.out HZ2.out
        have cvb := (h7.alloc (.cells #[.int .u8 ((x.packed.length : Int) / 256), .int .u8 ((x.packed.length : Int) % 256)] 5)).conv HNE.out
        have HS := hide (show (ba (short r.key ++ [UInt8.ofNat r.events.length] ++ (r.events.take j).flatMap Event.part)).size ≤ 400000 by rw [ba_size]; simp only [List.length_append, List.length_cons, List.length_nil]; omega)
        obtain ⟨cur, hcur⟩ : ∃ cur, ba (short r.key ++ [UInt8.ofNat r.events.length] ++ (r.events.take j).flatMap Event.part) = cur := ⟨_, rfl⟩
        rw [hcur] at HS
        have HCUR := hide hcur
        rw [hcur]
        have hs1 := HS.out
        have hs2 : (ba [UInt8.ofNat (x.packed.length / 256), UInt8.ofNat (x.packed.length % 256)]).size = 2 := rfl
        have hs3 := ba_size x.packed
        have n1 : ¬ (9223372036854775807 < cur.size + (ba [UInt8.ofNat (x.packed.length / 256), UInt8.ofNat (x.packed.length % 256)]).size) := by omega
        have n2 : ¬ (9223372036854775807 < cur.size + (ba [UInt8.ofNat (x.packed.length / 256), UInt8.ofNat (x.packed.length % 256)]).size + (ba x.packed).size) := by omega
        clear h7 k7 hc7 p0 p1 p2 p3 p4 p5 p6 hcur m2 lm hrow hs2 hs3
        go_wp2
        go_roundw
        case rel => exact ⟨j + 1, by omega, by go_num, by rw [hsn.out, hpe.out, ← HCUR.out]; simp only [ba_app, List.append_assoc, ByteArray.append_assoc], B7.out.trans (((Below.refl _ _).alloc (Nat.le_refl _) _).mono B7.out.size), HR7.out.alloc _⟩
        case measure => simp [intOf]; omega
      · obtain rfl : j = r.events.length := by omega
        rw [List.take_length]
        go_wp2
        go_ret
        exact ⟨ret_str (by simp [Record.bytes]), HKB.out⟩
end Go.Proofs.Ytfllacpmbcamkaa
