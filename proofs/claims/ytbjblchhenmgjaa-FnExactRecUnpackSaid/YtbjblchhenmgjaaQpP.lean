/-
  The laws' marks at an Event by value, as the general walk wants them; how much EventUnpack's answer counts. The program's pack. Whether some event of a list is not ok: the closure of recordOk, IndexFunc and ContainsFunc on it.
-/
import Derived.Test.YtbjblchhenmgjaaQpO
import Derived.Test.YtbjblchhenmgjaaQpI
set_option linter.unusedVariables false
set_option linter.unusedSimpArgs false
namespace Go.Proofs.Ytbjblchhenmgjaa
open Go.ChangeShapes Go.WideShapes Go.ChangeAt Go.RowKit

def Event.mkTop (x : Event) (a b : Nat) : Prop := x.body.mkTop a b
def Event.cntTop (x : Event) : Nat := x.body.cntTop
theorem Event.cntTop_eq (x : Event) : x.cntTop = x.body.cntTop := rfl
set_option maxRecDepth 100000 in
theorem markEvent_any (x : Event) (us : List Value) (fp : List Nat) (lo : Nat) (z : Int) (k0 : Nat) (w : World) (hz : z = k0) (ho : OwC w x.cells us fp) (hn : New w fp lo) (hb : k0 + x.cntTop ≤ 1099511627776) :
    Calls Try.prog 21 #[.agg us.toArray, .int .i64 z] w fun e w' => ∃ (x' : Event), e = .returned (.int .i64 ((k0 + x.cntTop : Nat) : Int)) ∧ OwC w' x'.cells us fp ∧ x'.mkTop k0 (k0 + x.cntTop) ∧ Touch fp w w' := by
  subst hz
  have hc := x.cntTop_eq
  have ho' := ho
  obtain ⟨A1, c1, A2, c2, f1, f2, rfl, w0, w1, w2, w3, w4, o1, o2, rfl⟩ := ho.oEvent
  have hw1 : Below w.heap.size w (w.alloc (.cells #[.string x.type_, .int .i64 x.version, .int .i64 x.body.sort, .int .i64 x.body.num, .string x.body.text, .slice A1 x.body.names.length c1, .slice A2 x.body.kids.length c2] 28)) := (Below.refl _ _).alloc (Nat.le_refl _) _
  have HO := hide (ho'.oBody.below hw1 hn.lt)
  have HN := hide (hn.below hw1 hn.lt)
  have T0 := hide (Touch.below (fp := f1 ++ f2) hw1)
  rw [hc] at hb
  clear ho ho' o1 o2 hw1 hc
  go_enter Try.func21, Try.ntmps21
  go_wp2_with fail
  refine (markTree_any x.body _ _ lo _ k0 _ rfl HO.out HN.out hb).mono ?_
  rintro e w' ⟨y, rfl, yo, ym, ht⟩
  have HT := hide (T0.out.trans ht)
  have HYO := hide yo
  have HYM := hide ym
  clear yo ym ht
  go_wp2
  go_ret
  refine ⟨⟨x.type_, x.version, y⟩, rfl, ?_, HYM.out, HT.out⟩
  obtain ⟨B1, d1, B2, d2, g1, g2, e1, v0, v1, v2, q1, q2, e2⟩ := HYO.out.oTree
  simp only [List.cons.injEq, and_true] at e1
  obtain ⟨e3, e4, e5, e6, e7⟩ := e1
  rw [e3, e4, e5, e6, e7, e2]
  exact OwC.mEvent (x := ⟨x.type_, x.version, y⟩) w0 w1 v0 v1 v2 q1 q2
set_option maxRecDepth 100000 in
theorem heldEvent_any (x : Event) (us : List Value) (fp : List Nat) (z : Int) (a b : Nat) (w : World) (hz : z = a) (ho : OwC w x.cells us fp) (hf : Lt fp w.heap.size) (hmk : x.mkTop a b) (hb : b ≤ 1099511627776) :
    Calls Try.prog 22 #[.agg us.toArray, .int .i64 z] w fun e w' => e = .returned (.int .i64 (b : Nat)) ∧ Below w.heap.size w w' := by
  subst hz
  have ho' := ho
  obtain ⟨A1, c1, A2, c2, f1, f2, rfl, w0, w1, w2, w3, w4, o1, o2, rfl⟩ := ho.oEvent
  have hw1 : Below w.heap.size w (w.alloc (.cells #[.string x.type_, .int .i64 x.version, .int .i64 x.body.sort, .int .i64 x.body.num, .string x.body.text, .slice A1 x.body.names.length c1, .slice A2 x.body.kids.length c2] 28)) := (Below.refl _ _).alloc (Nat.le_refl _) _
  have HO := hide (ho'.oBody.below hw1 hf)
  have HF := hide (hf.up hw1)
  have HB := hide hw1
  have HM := hide hmk
  clear ho ho' o1 o2 hw1 hf hmk
  go_enter Try.func22, Try.ntmps22
  go_wp2_with fail
  refine (heldTree_any x.body _ _ _ a b _ rfl HO.out HF.out HM.out hb).mono ?_
  rintro e w' ⟨rfl, hb'⟩
  have HB' := hide (HB.out.trans (hb'.mono HB.out.size))
  clear hb'
  go_wp2
  go_ret
  exact ⟨rfl, HB'.out⟩
theorem unpackE_bulk (l : List UInt8) : (unpackE l).bulk ≤ l.length := by
  by_cases h : ∃ x, Event.from l x
  · obtain ⟨x, hx⟩ := h
    rw [(unpack_yes hx).1]
    have h1 := pEvent_back true x hx.1
    rw [hx.2.1] at h1
    exact pEvent_bulk h1
  · rw [(unpack_no (fun x hx => h ⟨x, hx⟩)).1]
    exact Nat.zero_le _
theorem unpackE_cnt (l : List UInt8) : (unpackE l).cntTop ≤ 3 + 3 * l.length := by
  have h1 := unpackE_bulk l
  have h2 := (unpackE l).body.cntTop_le
  have h3 : (unpackE l).bulk = (unpackE l).type_.size + (unpackE l).body.bulk := rfl
  rw [Event.cntTop_eq]
  omega
end Go.Proofs.Ytbjblchhenmgjaa
namespace Go.Proofs.Ytbjblchhenmgjaa
open Go.ChangeShapes Go.WideShapes Go.ChangeAt Go.RowKit

set_option maxRecDepth 100000 in
set_option maxHeartbeats 2000000 in
theorem implPack_any (r : Record) (us : List Value) (fp : List Nat) (w : World) (ho : OwC w r.cells us fp) (hf : Lt fp w.heap.size) (hbk : r.bulk ≤ 1048576) (hfn : r.fine) :
    Calls Try.prog 175 #[.agg us.toArray] w fun e w' => e = .returned (.string (ba r.bytes)) ∧ Below w.heap.size w w' := by
  obtain ⟨A1, c1, f1, rfl, w0, w1, o1, rfl⟩ := ho.oRecord
  obtain ⟨_, hcap, hmx⟩ := o1.nlen
  unfold maxLen at hmx
  have R1 : Row (w.alloc (.cells #[.int .i64 r.pos, .string r.key, .slice A1 r.events.length c1] 39)) w.heap.size 39 [.int .i64 r.pos, .string r.key, .slice A1 r.events.length c1] := Row.new w _ _
  have B1 := hide (show Below w.heap.size w (w.alloc (.cells #[.int .i64 r.pos, .string r.key, .slice A1 r.events.length c1] 39)) from (Below.refl _ _).alloc (Nat.le_refl _) _)
  have O1 := hide o1
  have HFN := hide hfn
  have hkey := hfn.2.1.2.1
  have hkey1 := hfn.2.1.1
  have hel := hfn.2.2.1
  have hsl := short_len r.key
  have hrb := r.bulk_eq
  unfold Event.bulkL at hrb
  have hs255 : r.key.size ≤ 255 := by omega
  have hl0 : ([] : List UInt8).length + (short r.key).length ≤ 1073741824 := by simp only [List.length_nil]; omega
  have hl1 : ([] ++ short r.key : List UInt8).length + 1 ≤ 1099511627776 := by simp only [List.length_append, List.length_nil]; omega
  have hevu : 39 ≠ 5 := by decide
  have hwv : IntKind.u8.wrap (r.events.length : Int) = (r.events.length : Int) := by simp only [IntKind.wrap, IntKind.bits, IntKind.signed]; simp; omega
  have HV := hide (show (r.events.length : Int) = ((UInt8.ofNat r.events.length).toNat : Int) by rw [u8_of _ (by omega)])
  have q1 := R1.cell 1
  have q2 := R1.cell 2
  have lr := R1.lt
  clear ho o1 hfn
  obtain ⟨u2, hu2⟩ : ∃ u2, w.alloc (.cells #[.int .i64 r.pos, .string r.key, .slice A1 r.events.length c1] 39) = u2 := ⟨_, rfl⟩
  go_enter Try.func175, Try.ntmps175
  rw [hu2] at R1 B1 q1 q2 lr
  go_wp2
  go_region_held3 (fun w' => w'.cell? ⟨w.heap.size, 1, none⟩ = some (.string r.key) ∧ w'.cell? ⟨w.heap.size, 2, none⟩ = some (.slice A1 r.events.length c1))
    (first | go_keep | exact ⟨RX6.cell 1, RX6.cell 2⟩ | exact ⟨RX5.cell 1, RX5.cell 2⟩ | exact ⟨(RX5.alloc _).cell 1, (RX5.alloc _).cell 2⟩)
    (first
    | (go_at_call 168; refine (packText_any [] r.key _ _ _ (Byt.nil _ _) (Nat.le_refl _) hs255 hl0).mono ?_; rintro e w5 ⟨v5, rfl, h5, k5⟩; have BX5 := Aft.below (u := u2) (.inl rfl) k5.below; have RX5 := R1.below BX5 lr; have H5 := h5.mono (Nat.le_trans B1.out.size (Aft.size (u := u2) (.inl rfl))))
    | (go_at_call 168; refine (packText_any [] r.key _ _ _ (Byt.nil _ _) (Nat.le_refl _) hs255 hl0).mono ?_; rintro e w5 ⟨v5, rfl, h5, k5⟩; have BX5 := Aft.below (u := u2) (.inr ⟨_, rfl⟩) k5.below; have RX5 := R1.below BX5 lr; have H5 := h5.mono (Nat.le_trans B1.out.size (Aft.size (u := u2) (.inr ⟨_, rfl⟩))))
    | (refine step_push1 _ _ (by rfl) _ _ (by rfl) w.heap.size _ _ (by rfl) H5 (UInt8.ofNat r.events.length) _ (by rfl) rfl HV.out hl1 (Nat.le_trans B1.out.size BX5.size) ?_; intro v6 w6 h6 k6; have RX6 := k6.rows _ _ _ RX5 hevu)
    | (refine step_push _ (by rfl) _ _ (by rfl) w.heap.size _ _ (by rfl) H5 _ _ (UInt8.ofNat r.events.length) _ (by rfl) (aft_cell k5.below) HV.out hl1 (Nat.le_trans B1.out.size BX5.size) ?_; intro v6 w6 h6 k6; have RX6 := k6.rows _ _ _ RX5 hevu))
  all_goals
    have HB6 := hide (B1.out.trans ((BX5.mono B1.out.size).trans k6.below))
    have H6 := hide (show Byt w6 w.heap.size v6 (short r.key ++ [UInt8.ofNat r.events.length] ++ (r.events.take 0).flatMap Event.part) by simpa using h6)
    have m2 := RX6.cell 2
    have lm := RX6.lt
    clear h5 k5 h6 k6 q1 q2 R1 lr RX5 BX5 H5 hwv HV
    go_wp2
    go_loopw [3, 19] (fun vv i wr => ∃ j : Nat, j ≤ r.events.length ∧ i = .int .i64 j ∧ Byt wr w.heap.size vv (short r.key ++ [UInt8.ofNat r.events.length] ++ (r.events.take j).flatMap Event.part) ∧ Below w.heap.size w wr) (fun _ i _ => r.events.length - (intOf i).toNat)
    case atStart => exact ⟨0, Nat.zero_le _, rfl, H6.out, HB6.out⟩
    case round =>
      obtain ⟨j, hj, rfl, hby, hkw⟩ := hrel
      have HBY := hide hby
      have HKB := hide hkw
      have b3 := hkw.size
      clear hby hkw RX6 m2 lm
      by_cases hlt : j < r.events.length
      · obtain ⟨g, off, ws, fi, rfl, hgm, hfi, hwl, hcs, hov⟩ := (O1.out.below HKB.out hf).elem Event.cells_len hlt
        have HOT := hide hov
        have HFT := hide (hf.sub hfi)
        have hgl := hf _ hgm
        have hgw : g < wr.heap.size := by omega
        have hbx : r.events[j].bulk ≤ 1048576 := by
          have h1 := Event.bulk_at r.events j hlt
          omega
        have hok := HFN.out.2.2.2 j hlt
        have hsn := hide (parts_snoc r.events j hlt)
        have hpl := parts_len (r.events.take j)
        have hpp := Event.part_len r.events[j]
        have hpk := Event.packed_len r.events[j]
        have HNE := hide (Event.packed_ne hok)
        have hne : 1 ≤ r.events[j].packed.length := List.length_pos_iff.2 (Event.packed_ne hok)
        have hpe := hide (show r.events[j].part = [UInt8.ofNat (r.events[j].packed.length / 256), UInt8.ofNat (r.events[j].packed.length % 256)] ++ r.events[j].packed from rfl)
        have hpl : ((r.events.take j).flatMap Event.part).length ≤ 388080 := by rw [List.length_take] at hpl; omega
        obtain ⟨D1, d1, D2, d2, r1, r2, rfl, y0, y1, y2, y3, y4, z1, z2, rfl⟩ := hov.oEvent
        have p0 := hcs 0 _ rfl
        have p1 := hcs 1 _ rfl
        have p2 := hcs 2 _ rfl
        have p3 := hcs 3 _ rfl
        have p4 := hcs 4 _ rfl
        have p5 := hcs 5 _ rfl
        have p6 := hcs 6 _ rfl
        simp only [Nat.add_zero] at p0
        clear hcs hov z1 z2 hfi hok
        obtain ⟨x, hx⟩ : ∃ x, r.events[j] = x := ⟨_, rfl⟩
        rw [hx] at p0 p1 p2 p3 p4 p5 p6 HOT hbx hsn hpp hpk HNE hne hpe
        clear hx
        have hb4 : Below wr.heap.size wr (wr.alloc (.cells #[.string x.type_, .int .i64 x.version, .int .i64 x.body.sort, .int .i64 x.body.num, .string x.body.text, .slice D1 x.body.names.length d1, .slice D2 x.body.kids.length d2] 28)) := (Below.refl _ _).alloc (Nat.le_refl _) _
        go_wp2_with fail
        refine (implEventPack_any x _ _ _ (HOT.out.below (hb4.mono b3) HFT.out) (HFT.out.mono (by simp; omega)) hbx).mono ?_
        rintro e w7 ⟨v7, rfl, h7, k7⟩
        obtain ⟨g7, c7, rfl, hc7⟩ := h7.form HNE.out
        have HB7 := hide ((HBY.out.below hb4).below k7)
        have B7 := hide (HKB.out.trans ((hb4.mono b3).trans (k7.mono (by simp; omega))))
        have b7 := B7.out.size
        have hown7 := hide (fun g hg => show g < (wr.alloc (.cells #[.string x.type_, .int .i64 x.version, .int .i64 x.body.sort, .int .i64 x.body.num, .string x.body.text, .slice D1 x.body.names.length d1, .slice D2 x.body.kids.length d2] 28)).heap.size from by have := HBY.out.lt g hg; simp; omega)
        have H7 := hide h7
        have g7l : g7 < w7.heap.size := by
          have := (World.ownsRow.lt h7 g7 rfl).2
          exact this
        have g7b : (wr.alloc (.cells #[.string x.type_, .int .i64 x.version, .int .i64 x.body.sort, .int .i64 x.body.num, .string x.body.text, .slice D1 x.body.names.length d1, .slice D2 x.body.kids.length d2] 28)).heap.size ≤ g7 := (World.ownsRow.lt h7 g7 rfl).1
        have H7c := hide hc7
        clear h7 k7 hb4 p0 p1 p2 p3 p4 p5 p6 hc7
        go_wp2_with (at_builtin; refine wpl_push2G _ _ _ rfl _ _ rfl w.heap.size _ _ rfl HB7.out (UInt8.ofNat (x.packed.length / 256)) (UInt8.ofNat (x.packed.length % 256)) _ rfl ?pg1 ?px1 ?py1 ?pl1 ?pb1 ?_)
        case pg1 => first | rfl | simp
        case px1 => rw [u8_of _ (by omega)]; (try omega)
        case py1 => rw [u8_of _ (by omega)]; (try omega)
        case pl1 => (simp only [List.length_append, List.length_cons, List.length_nil]); omega
        case pb1 => omega
        intro v8 w8 h8 k8 keep8
        have H8 := hide h8
        have B8 := hide (B7.out.trans k8.below)
        have b8 := k8.below.size
        have KEEP8 := hide (fun j u hj => (cells_keep (keep8 g7 g7l (fun e => by have := hown7.out g7 e; omega)) j).trans (H7c.out j u hj))
        clear keep8
        go_wp2_with (at_builtin; refine wpl_cells _ rfl _ _ rfl w.heap.size _ _ x.packed rfl H8.out g7 _ _ rfl rfl ?pg2 ?pl2 ?pb2 ?_)
        case pg2 => exact KEEP8.out
        case pl2 => (simp only [List.length_append, List.length_cons, List.length_nil]); omega
        case pb2 => omega
        intro v9 w9 h9 k9
        have H9 := hide h9
        have B9 := hide (B8.out.trans k9.below)
        clear h8 k8 h9 k9
        go_wp2
        go_roundw
        case rel => exact ⟨j + 1, by omega, by go_num, by rw [hsn.out, hpe.out]; simpa using H9.out, B9.out⟩
        case measure => simp [intOf]; omega
      · obtain rfl : j = r.events.length := by omega
        have HB2 := HBY
        rw [List.take_length] at HB2
        have hcv := HB2.out.conv (by simp [short])
        go_wp2
        go_ret
        exact ⟨ret_str (by simp [Record.bytes]), HKB.out⟩
end Go.Proofs.Ytbjblchhenmgjaa
namespace Go.Proofs.Ytbjblchhenmgjaa
open Go.ChangeShapes Go.WideShapes Go.ChangeAt Go.RowKit

set_option maxRecDepth 100000 in
theorem recClosure_any (x : Event) (us : List Value) (fp : List Nat) (w : World) (ho : OwC w x.cells us fp) (hf : Lt fp w.heap.size) (hbk : x.bulk ≤ 1048576) :
    Calls Try.prog 221 #[.agg us.toArray] w fun e w' => e = .returned (.bool (!tb x.ok)) ∧ Below w.heap.size w w' := by
  have HO := hide ho
  obtain ⟨A1, c1, A2, c2, f1, f2, rfl, w0, w1, w2, w3, w4, o1, o2, rfl⟩ := ho.oEvent
  have hw1 := hide (show Below w.heap.size w (w.alloc (.cells #[.string x.type_, .int .i64 x.version, .int .i64 x.body.sort, .int .i64 x.body.num, .string x.body.text, .slice A1 x.body.names.length c1, .slice A2 x.body.kids.length c2] 28)) from (Below.refl _ _).alloc (Nat.le_refl _) _)
  clear ho o1 o2
  go_enter Try.func221, Try.ntmps221
  go_wp2_with fail
  refine (implEventOk_any x _ _ _ (HO.out.below hw1.out hf) (hf.up hw1.out) hbk).mono ?_
  rintro e w2 ⟨rfl, hb2⟩
  go_wp2
  go_ret
  exact ⟨rfl, hw1.out.trans (hb2.mono hw1.out.size)⟩

set_option maxRecDepth 100000 in
theorem recIndex_any (l : List Event) (A : Option Addr) (n c : Nat) (fp : List Nat) (w : World) (h : Ow w (.s 7 l.length (l.flatMap Event.cells)) (.slice A n c) fp) (hf : Lt fp w.heap.size) (hbk : Event.bulkS l ≤ 1048576) :
    Calls Try.prog 251 #[.slice A n c, .func (.func 221) #[] #[]] w fun e w' => ∃ k : Int, e = .returned (.int .i64 k) ∧ (0 ≤ k ↔ ¬ ∀ i (h : i < l.length), l[i].ok) ∧ Below w.heap.size w w' := by
  obtain ⟨rfl, hc, hm⟩ := h.nlen
  unfold maxLen at hm
  have H := hide h
  clear h
  go_enter Try.func251, Try.ntmps251
  go_wp2
  go_loopw [8] (fun i wr => (∃ j : Nat, j ≤ l.length ∧ i = .int .i64 j ∧ ∀ a (h : a < l.length), a < j → l[a].ok) ∧ Below w.heap.size w wr) (fun i _ => l.length - (intOf i).toNat)
  case atStart => exact ⟨⟨0, Nat.zero_le _, rfl, fun a h1 h => absurd h (by omega)⟩, Below.refl _ _⟩
  case round =>
    obtain ⟨⟨j, hj, rfl, ha⟩, hbw⟩ := hrel
    have HA := hide ha
    have HB := hide hbw
    clear ha hbw
    by_cases hlt : j < l.length
    · obtain ⟨g, off, ws, fi, rfl, hgm, hfi, hwl, hcs, hov⟩ := (H.out.below HB.out hf).elem Event.cells_len hlt
      have HOT := hide hov
      have HFT := hide ((hf.up HB.out).sub hfi)
      have hbx : l[j].bulk ≤ 1048576 := by have := Event.bulk_at l j hlt; omega
      have hst := hide (fun (hx : l[j].ok) (a : Nat) (h : a < l.length) (hl : a < j + 1) => show l[a].ok from by
        by_cases e : a < j
        · exact HA.out a h e
        · obtain rfl : a = j := by omega
          exact hx)
      have hno := hide (fun (hx : ¬ l[j].ok) => show ¬ ∀ i (h : i < l.length), l[i].ok from fun hh => hx (hh j hlt))
      obtain ⟨D1, d1, D2, d2, r1, r2, rfl, y0, y1, y2, y3, y4, z1, z2, rfl⟩ := hov.oEvent
      have p0 := hcs 0 _ rfl
      have p1 := hcs 1 _ rfl
      have p2 := hcs 2 _ rfl
      have p3 := hcs 3 _ rfl
      have p4 := hcs 4 _ rfl
      have p5 := hcs 5 _ rfl
      have p6 := hcs 6 _ rfl
      simp only [Nat.add_zero] at p0
      clear hcs hov z1 z2 hfi
      generalize l[j] = x at *
      go_wp2_with fail
      refine (recClosure_any x _ _ _ HOT.out HFT.out hbx).mono ?_
      rintro e w2 ⟨rfl, hb2⟩
      have HB2 := hide (HB.out.trans (hb2.mono HB.out.size))
      clear hb2
      by_cases hx : x.ok
      · rw [tb_true hx]
        have HX := hide (hst.out hx)
        clear hx
        go_wp2
        go_roundw
        case rel => exact ⟨⟨j + 1, by omega, by go_num, HX.out⟩, HB2.out⟩
        case measure => simp [intOf]; omega
      · rw [tb_false hx]
        have HX := hide (hno.out hx)
        clear hx
        go_wp2
        go_ret
        exact ⟨j, rfl, ⟨fun _ => HX.out, fun _ => by omega⟩, HB2.out⟩
    · obtain rfl : j = l.length := by omega
      have HX := hide (show ∀ i (h : i < l.length), l[i].ok from fun i h => HA.out i h h)
      go_wp2
      go_ret
      exact ⟨-1, rfl, ⟨fun h => absurd h (by omega), fun h => absurd HX.out h⟩, HB.out⟩

set_option maxRecDepth 100000 in
theorem recContains_any (l : List Event) (A : Option Addr) (n c : Nat) (fp : List Nat) (w : World) (h : Ow w (.s 7 l.length (l.flatMap Event.cells)) (.slice A n c) fp) (hf : Lt fp w.heap.size) (hbk : Event.bulkS l ≤ 1048576) :
    Calls Try.prog 220 #[.slice A n c, .func (.func 221) #[] #[]] w fun e w' => e = .returned (.bool (tb (¬ ∀ i (h : i < l.length), l[i].ok))) ∧ Below w.heap.size w w' := by
  have H := hide h
  clear h
  go_enter Try.func220, Try.ntmps220
  go_wp2_with fail
  refine (recIndex_any l _ _ _ _ _ H.out hf hbk).mono ?_
  rintro e w2 ⟨k, rfl, hk, hb⟩
  by_cases h0 : 0 ≤ k
  · have HT := hide (tb_true (hk.1 h0))
    go_wp2
    go_ret
    exact ⟨ret_bool (by rw [HT.out]; simpa using h0), hb⟩
  · have HT := hide (tb_false (fun h => h0 (hk.2 h)))
    go_wp2
    go_ret
    exact ⟨ret_bool (by rw [HT.out]; simpa using h0), hb⟩
end Go.Proofs.Ytbjblchhenmgjaa
