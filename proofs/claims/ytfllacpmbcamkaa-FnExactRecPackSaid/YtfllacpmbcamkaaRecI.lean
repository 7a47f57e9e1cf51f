/-
  The program's pack.
-/
import Derived.Test.YtfllacpmbcamkaaRec
set_option linter.unusedVariables false
set_option linter.unusedSimpArgs false
namespace Go.Proofs.Ytfllacpmbcamkaa
open Go.ChangeShapes Go.WideShapes Go.ChangeAt Go.RowKit

set_option maxRecDepth 100000 in
set_option maxHeartbeats 2000000 in
theorem implPack_any (r : Record) (us : List Value) (fp : List Nat) (w : World) (ho : OwC w r.cells us fp) (hf : Lt fp w.heap.size) (hbk : r.bulk ≤ 1048576) (hfn : r.fine) :
    Calls Try.prog 84 #[.agg us.toArray] w fun e w' => e = .returned (.string (ba r.bytes)) ∧ Below w.heap.size w w' := by
  obtain ⟨A1, c1, f1, rfl, w0, w1, o1, rfl⟩ := ho.oRecord
  obtain ⟨_, hcap, hmx⟩ := o1.nlen
  unfold maxLen at hmx
  have R1 : Row (w.alloc (.cells #[.int .i64 r.pos, .string r.key, .slice A1 r.events.length c1] 60)) w.heap.size 60 [.int .i64 r.pos, .string r.key, .slice A1 r.events.length c1] := Row.new w _ _
  have B1 := hide (show Below w.heap.size w (w.alloc (.cells #[.int .i64 r.pos, .string r.key, .slice A1 r.events.length c1] 60)) from (Below.refl _ _).alloc (Nat.le_refl _) _)
  have O1 := hide o1
  have HFN := hide hfn
  have hkey := hfn.2.1.2.1
  have hkey1 := hfn.2.1.1
  have hel := hfn.2.2.1
  have hsl := short_len r.key
  have hrb := r.bulk_eq
  unfold Event.bulkL at hrb
  have hs255 : r.key.size ≤ 255 := by omega
  have hl0 : ([] : List UInt8).length + (short r.key).length ≤ 1073741824 := by simp only [List.length_nil]; omega
  have hl1 : ([] ++ short r.key : List UInt8).length + 1 ≤ 1099511627776 := by simp only [List.length_append, List.length_nil]; omega
  have hevu : 60 ≠ 5 := by decide
  have hwv : IntKind.u8.wrap (r.events.length : Int) = (r.events.length : Int) := by simp only [IntKind.wrap, IntKind.bits, IntKind.signed]; simp; omega
  have HV := hide (show (r.events.length : Int) = ((UInt8.ofNat r.events.length).toNat : Int) by rw [u8_of _ (by omega)])
  have q1 := R1.cell 1
  have q2 := R1.cell 2
  have lr := R1.lt
  clear ho o1 hfn
  obtain ⟨u2, hu2⟩ : ∃ u2, w.alloc (.cells #[.int .i64 r.pos, .string r.key, .slice A1 r.events.length c1] 60) = u2 := ⟨_, rfl⟩
  go_enter Try.func84, Try.ntmps84
  rw [hu2] at R1 B1 q1 q2 lr
  go_wp2
  go_region_held3 (fun w' => w'.cell? ⟨w.heap.size, 1, none⟩ = some (.string r.key) ∧ w'.cell? ⟨w.heap.size, 2, none⟩ = some (.slice A1 r.events.length c1))
    (first | go_keep | exact ⟨RX6.cell 1, RX6.cell 2⟩ | exact ⟨RX5.cell 1, RX5.cell 2⟩ | exact ⟨(RX5.alloc _).cell 1, (RX5.alloc _).cell 2⟩)
    (first
    | (go_at_call 107; refine (packText_any [] r.key _ _ _ (Byt.nil _ _) (Nat.le_refl _) hs255 hl0).mono ?_; rintro e w5 ⟨v5, rfl, h5, k5⟩; have BX5 := Aft.below (u := u2) (.inl rfl) k5.below; have RX5 := R1.below BX5 lr; have H5 := h5.mono (Nat.le_trans B1.out.size (Aft.size (u := u2) (.inl rfl))))
    | (go_at_call 107; refine (packText_any [] r.key _ _ _ (Byt.nil _ _) (Nat.le_refl _) hs255 hl0).mono ?_; rintro e w5 ⟨v5, rfl, h5, k5⟩; have BX5 := Aft.below (u := u2) (.inr ⟨_, rfl⟩) k5.below; have RX5 := R1.below BX5 lr; have H5 := h5.mono (Nat.le_trans B1.out.size (Aft.size (u := u2) (.inr ⟨_, rfl⟩))))
    | (refine step_push1 _ _ (by rfl) _ _ (by rfl) w.heap.size _ _ (by rfl) H5 (UInt8.ofNat r.events.length) _ (by rfl) rfl HV.out hl1 (Nat.le_trans B1.out.size BX5.size) ?_; intro v6 w6 h6 k6; have RX6 := k6.rows _ _ _ RX5 hevu)
    | (refine step_push _ (by rfl) _ _ (by rfl) w.heap.size _ _ (by rfl) H5 _ _ (UInt8.ofNat r.events.length) _ (by rfl) (aft_cell k5.below) HV.out hl1 (Nat.le_trans B1.out.size BX5.size) ?_; intro v6 w6 h6 k6; have RX6 := k6.rows _ _ _ RX5 hevu))
  all_goals
    have HB6 := hide (B1.out.trans ((BX5.mono B1.out.size).trans k6.below))
    have H6 := hide (show Byt w6 w.heap.size v6 (short r.key ++ [UInt8.ofNat r.events.length] ++ (r.events.take 0).flatMap Event.part) by simpa using h6)
    have m2 := RX6.cell 2
    have lm := RX6.lt
    clear h5 k5 h6 k6 q1 q2 R1 lr RX5 BX5 H5 hwv HV
    go_wp2
    go_loopw [3, 19] (fun vv i wr => ∃ j : Nat, j ≤ r.events.length ∧ i = .int .i64 j ∧ Byt wr w.heap.size vv (short r.key ++ [UInt8.ofNat r.events.length] ++ (r.events.take j).flatMap Event.part) ∧ Below w.heap.size w wr) (fun _ i _ => r.events.length - (intOf i).toNat)
    case atStart => exact ⟨0, Nat.zero_le _, rfl, H6.out, HB6.out⟩
    case round =>
      obtain ⟨j, hj, rfl, hby, hkw⟩ := hrel
      have HBY := hide hby
      have HKB := hide hkw
      have b3 := hkw.size
      clear hby hkw RX6 m2 lm
      by_cases hlt : j < r.events.length
      · obtain ⟨g, off, ws, fi, rfl, hgm, hfi, hwl, hcs, hov⟩ := (O1.out.below HKB.out hf).elem Event.cells_len hlt
        have HOT := hide hov
        have HFT := hide (hf.sub hfi)
        have hgl := hf _ hgm
        have hgw : g < wr.heap.size := by omega
        have hbx : r.events[j].bulk ≤ 1048576 := by
          have h1 := Event.bulk_at r.events j hlt
          omega
        have hok := HFN.out.2.2.2 j hlt
        have hsn := hide (parts_snoc r.events j hlt)
        have hpl := parts_len (r.events.take j)
        have hpp := Event.part_len r.events[j]
        have hpk := Event.packed_len r.events[j]
        have HNE := hide (Event.packed_ne hok)
        have hne : 1 ≤ r.events[j].packed.length := List.length_pos_iff.2 (Event.packed_ne hok)
        have hpe := hide (show r.events[j].part = [UInt8.ofNat (r.events[j].packed.length / 256), UInt8.ofNat (r.events[j].packed.length % 256)] ++ r.events[j].packed from rfl)
        have hpl : ((r.events.take j).flatMap Event.part).length ≤ 388080 := by rw [List.length_take] at hpl; omega
        obtain ⟨D1, d1, D2, d2, r1, r2, rfl, y0, y1, y2, y3, y4, z1, z2, rfl⟩ := hov.oEvent
        have p0 := hcs 0 _ rfl
        have p1 := hcs 1 _ rfl
        have p2 := hcs 2 _ rfl
        have p3 := hcs 3 _ rfl
        have p4 := hcs 4 _ rfl
        have p5 := hcs 5 _ rfl
        have p6 := hcs 6 _ rfl
        simp only [Nat.add_zero] at p0
        clear hcs hov z1 z2 hfi hok
        obtain ⟨x, hx⟩ : ∃ x, r.events[j] = x := ⟨_, rfl⟩
        rw [hx] at p0 p1 p2 p3 p4 p5 p6 HOT hbx hsn hpp hpk HNE hne hpe
        clear hx
        have hb4 : Below wr.heap.size wr (wr.alloc (.cells #[.string x.type_, .int .i64 x.version, .int .i64 x.body.sort, .int .i64 x.body.num, .string x.body.text, .slice D1 x.body.names.length d1, .slice D2 x.body.kids.length d2] 44)) := (Below.refl _ _).alloc (Nat.le_refl _) _
        go_wp2_with fail
        refine (implEventPack_any x _ _ _ (HOT.out.below (hb4.mono b3) HFT.out) (HFT.out.mono (by simp; omega)) hbx).mono ?_
        rintro e w7 ⟨v7, rfl, h7, k7⟩
        obtain ⟨g7, c7, rfl, hc7⟩ := h7.form HNE.out
        have HB7 := hide ((HBY.out.below hb4).below k7)
        have B7 := hide (HKB.out.trans ((hb4.mono b3).trans (k7.mono (by simp; omega))))
        have b7 := B7.out.size
        have hown7 := hide (fun g hg => show g < (wr.alloc (.cells #[.string x.type_, .int .i64 x.version, .int .i64 x.body.sort, .int .i64 x.body.num, .string x.body.text, .slice D1 x.body.names.length d1, .slice D2 x.body.kids.length d2] 44)).heap.size from by have := HBY.out.lt g hg; simp; omega)
        have H7 := hide h7
        have g7l : g7 < w7.heap.size := by
          have := (World.ownsRow.lt h7 g7 rfl).2
          exact this
        have g7b : (wr.alloc (.cells #[.string x.type_, .int .i64 x.version, .int .i64 x.body.sort, .int .i64 x.body.num, .string x.body.text, .slice D1 x.body.names.length d1, .slice D2 x.body.kids.length d2] 44)).heap.size ≤ g7 := (World.ownsRow.lt h7 g7 rfl).1
        have H7c := hide hc7
        clear h7 k7 hb4 p0 p1 p2 p3 p4 p5 p6 hc7
        go_wp2_with (at_builtin; refine wpl_push2G _ _ _ rfl _ _ rfl w.heap.size _ _ rfl HB7.out (UInt8.ofNat (x.packed.length / 256)) (UInt8.ofNat (x.packed.length % 256)) _ rfl ?pg1 ?px1 ?py1 ?pl1 ?pb1 ?_)
        case pg1 => first | rfl | simp
        case px1 => rw [u8_of _ (by omega)]; (try omega)
        case py1 => rw [u8_of _ (by omega)]; (try omega)
        case pl1 => (simp only [List.length_append, List.length_cons, List.length_nil]); omega
        case pb1 => omega
        intro v8 w8 h8 k8 keep8
        have H8 := hide h8
        have B8 := hide (B7.out.trans k8.below)
        have b8 := k8.below.size
        have KEEP8 := hide (fun j u hj => (cells_keep (keep8 g7 g7l (fun e => by have := hown7.out g7 e; omega)) j).trans (H7c.out j u hj))
        clear keep8
        go_wp2_with (at_builtin; refine wpl_cells _ rfl _ _ rfl w.heap.size _ _ x.packed rfl H8.out g7 _ _ rfl rfl ?pg2 ?pl2 ?pb2 ?_)
        case pg2 => exact KEEP8.out
        case pl2 => (simp only [List.length_append, List.length_cons, List.length_nil]); omega
        case pb2 => omega
        intro v9 w9 h9 k9
        have H9 := hide h9
        have B9 := hide (B8.out.trans k9.below)
        clear h8 k8 h9 k9
        go_wp2
        go_roundw
        case rel => exact ⟨j + 1, by omega, by go_num, by rw [hsn.out, hpe.out]; simpa using H9.out, B9.out⟩
        case measure => simp [intOf]; omega
      · obtain rfl : j = r.events.length := by omega
        have HB2 := HBY
        rw [List.take_length] at HB2
        have hcv := HB2.out.conv (by simp [short])
        go_wp2
        go_ret
        exact ⟨ret_str (by simp [Record.bytes]), HKB.out⟩
end Go.Proofs.Ytfllacpmbcamkaa
