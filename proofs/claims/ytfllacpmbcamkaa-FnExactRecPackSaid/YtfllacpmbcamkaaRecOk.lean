/-
  Records that are ok, and their bytes: RecOk and RecPack of the program and of the reference.
-/
import Derived.Test.YtfllacpmbcamkaaRecI
import Derived.Test.YtfllacpmbcamkaaRecS
import Derived.Test.YtfllacpmbcamkaaRecO
set_option linter.unusedVariables false
set_option linter.unusedSimpArgs false
namespace Go.Proofs.Ytfllacpmbcamkaa
open Go.ChangeShapes Go.WideShapes Go.ChangeAt Go.RowKit

theorem Record.bulk_events (r : Record) : Event.bulkS r.events ≤ r.bulk := by
  have h := r.bulk_eq
  unfold Event.bulkL at h
  omega

set_option maxRecDepth 100000 in
set_option maxHeartbeats 1000000 in
theorem recordOk_any (r : Record) (us : List Value) (fp : List Nat) (w : World) (ho : OwC w r.cells us fp) (hf : Lt fp w.heap.size) (hbk : r.bulk ≤ 1048576) :
    Calls Try.prog 83 #[.agg us.toArray] w fun e w' => e = .returned (.bool (tb r.fine)) ∧ Below w.heap.size w w' := by
  have HO := hide ho
  obtain ⟨A1, c1, f1, rfl, w0, w1, o1, rfl⟩ := ho.oRecord
  obtain ⟨_, hcap, hmx⟩ := o1.nlen
  unfold maxLen at hmx
  have R1 : Row (w.alloc (.cells #[.int .i64 r.pos, .string r.key, .slice A1 r.events.length c1] 60)) w.heap.size 60 [.int .i64 r.pos, .string r.key, .slice A1 r.events.length c1] := Row.new w _ _
  have B1 := hide (show Below w.heap.size w (w.alloc (.cells #[.int .i64 r.pos, .string r.key, .slice A1 r.events.length c1] 60)) from (Below.refl _ _).alloc (Nat.le_refl _) _)
  have O1 := hide o1
  have hbe := Nat.le_trans r.bulk_events hbk
  have hrb := r.bulk_eq
  unfold Event.bulkL at hrb
  clear ho o1
  go_enter Try.func83, Try.ntmps83
  go_wp2_with fail
  refine (inRange_any _ _ _ _).mono ?_
  rintro e w' ⟨rfl, rfl⟩
  by_cases h1 : 1 ≤ r.pos ∧ r.pos ≤ 999999
  · rw [tb_true h1]
    have H1 := hide h1
    clear h1
    go_wp2_with fail
    refine (isName_any _ _ w1).mono ?_
    rintro e w' ⟨rfl, rfl⟩
    by_cases h2 : NameOk r.key
    · rw [tb_true h2]
      have H2 := hide h2
      clear h2
      go_wp2_with fail
      refine (inRange_any _ _ _ _).mono ?_
      rintro e w' ⟨rfl, rfl⟩
      by_cases h3 : 1 ≤ (r.events.length : Int) ∧ (r.events.length : Int) ≤ 40
      · rw [tb_true h3]
        have H3 := hide h3
        clear h3
        have HE := hide (show tb r.fine = tb (∀ i (h : i < r.events.length), r.events[i].ok) from congrArg tb (propext ⟨fun h => h.2.2.2, fun h => ⟨H1.out, H2.out, H3.out, h⟩⟩))
        go_wp2_with fail
        refine (recContains_any r.events _ _ _ _ _ (O1.out.below B1.out hf) (hf.up B1.out) hbe).mono ?_
        rintro e w3 ⟨rfl, hb3⟩
        have HB3 := hide (B1.out.trans (hb3.mono B1.out.size))
        by_cases h4 : ∀ i (h : i < r.events.length), r.events[i].ok
        · rw [tb_false (fun h => h h4)]
          rw [tb_true h4] at HE
          clear h4
          go_wp2
          go_ret
          exact ⟨ret_bool HE.out.symm, HB3.out⟩
        · rw [tb_true h4]
          rw [tb_false h4] at HE
          clear h4
          go_wp2
          go_ret
          exact ⟨ret_bool HE.out.symm, HB3.out⟩
      · rw [tb_false h3]
        have HT := hide (tb_false (p := r.fine) (fun h => h3 h.2.2.1))
        clear h3
        go_wp2
        go_ret
        exact ⟨ret_bool HT.out.symm, B1.out⟩
    · rw [tb_false h2]
      have HT := hide (tb_false (p := r.fine) (fun h => h2 h.2.1))
      clear h2
      go_wp2
      go_ret
      exact ⟨ret_bool HT.out.symm, B1.out⟩
  · rw [tb_false h1]
    have HT := hide (tb_false (p := r.fine) (fun h => h1 h.1))
    clear h1
    go_wp2
    go_ret
    exact ⟨ret_bool HT.out.symm, B1.out⟩

set_option maxRecDepth 100000 in
set_option maxHeartbeats 1000000 in
theorem implRecOk_any (r : Record) (us : List Value) (fp : List Nat) (w : World) (ho : OwC w r.cells us fp) (hf : Lt fp w.heap.size) (hbk : r.bulk ≤ 1048576) :
    Calls Try.prog 31 #[.agg us.toArray] w fun e w' => e = .returned (.bool (tb r.ok)) ∧ Below w.heap.size w w' := by
  have HO := hide ho
  obtain ⟨A1, c1, f1, rfl, w0, w1, o1, rfl⟩ := ho.oRecord
  obtain ⟨_, hcap, hmx⟩ := o1.nlen
  unfold maxLen at hmx
  have R1 : Row (w.alloc (.cells #[.int .i64 r.pos, .string r.key, .slice A1 r.events.length c1] 60)) w.heap.size 60 [.int .i64 r.pos, .string r.key, .slice A1 r.events.length c1] := Row.new w _ _
  have B1 := hide (show Below w.heap.size w (w.alloc (.cells #[.int .i64 r.pos, .string r.key, .slice A1 r.events.length c1] 60)) from (Below.refl _ _).alloc (Nat.le_refl _) _)
  have O1 := hide o1
  have hbe := Nat.le_trans r.bulk_events hbk
  have hrb := r.bulk_eq
  unfold Event.bulkL at hrb
  clear ho o1
  go_enter Try.func31, Try.ntmps31
  go_wp2_with fail
  refine (recordOk_any r _ _ _ (HO.out.below B1.out hf) (hf.up B1.out) hbk).mono ?_
  rintro e w2 ⟨rfl, hb2⟩
  have HB2 := hide (B1.out.trans (hb2.mono B1.out.size))
  have R2 := R1.below hb2 R1.lt
  have q0 := R2.cell 0
  have q1 := R2.cell 1
  have q2 := R2.cell 2
  have lr := R2.lt
  clear hb2
  by_cases h : r.fine
  · rw [tb_true h]
    have H := hide h
    clear h
    go_wp2_with fail
    refine (implPack_any r _ _ _ (HO.out.below HB2.out hf) (hf.up HB2.out) hbk H.out).mono ?_
    rintro e w3 ⟨rfl, hb3⟩
    have HB3 := hide (HB2.out.trans (hb3.mono HB2.out.size))
    have hsz := ba_size r.bytes
    have HE := hide (show tb r.ok = tb ((r.bytes.length : Int) ≤ 2000) from congrArg tb (propext ⟨fun h => h.2, fun h => ⟨H.out, h⟩⟩))
    by_cases h5 : (r.bytes.length : Int) ≤ 2000
    · rw [tb_true h5] at HE
      have hd : decide (((ba r.bytes).size : Int) ≤ 2000) = true := by rw [hsz]; simpa using h5
      clear hsz h5
      go_wp2
      go_ret
      exact ⟨ret_bool HE.out.symm, HB3.out⟩
    · rw [tb_false h5] at HE
      have hd : decide (((ba r.bytes).size : Int) ≤ 2000) = false := by rw [hsz]; simpa using h5
      clear hsz h5
      go_wp2
      go_ret
      exact ⟨ret_bool HE.out.symm, HB3.out⟩
  · rw [tb_false h]
    have HT := hide (tb_false (p := r.ok) (fun hh => h hh.1))
    clear h
    go_wp2
    go_ret
    exact ⟨ret_bool HT.out.symm, HB2.out⟩

set_option maxRecDepth 100000 in
set_option maxHeartbeats 1000000 in
theorem implRecPack_any (r : Record) (us : List Value) (fp : List Nat) (w : World) (ho : OwC w r.cells us fp) (hf : Lt fp w.heap.size) (hbk : r.bulk ≤ 1048576) :
    Calls Try.prog 34 #[.agg us.toArray] w fun e w' => e = .returned (.string r.packed) ∧ Below w.heap.size w w' := by
  have HO := hide ho
  obtain ⟨A1, c1, f1, rfl, w0, w1, o1, rfl⟩ := ho.oRecord
  obtain ⟨_, hcap, hmx⟩ := o1.nlen
  unfold maxLen at hmx
  have R1 : Row (w.alloc (.cells #[.int .i64 r.pos, .string r.key, .slice A1 r.events.length c1] 60)) w.heap.size 60 [.int .i64 r.pos, .string r.key, .slice A1 r.events.length c1] := Row.new w _ _
  have B1 := hide (show Below w.heap.size w (w.alloc (.cells #[.int .i64 r.pos, .string r.key, .slice A1 r.events.length c1] 60)) from (Below.refl _ _).alloc (Nat.le_refl _) _)
  have O1 := hide o1
  have hbe := Nat.le_trans r.bulk_events hbk
  have hrb := r.bulk_eq
  unfold Event.bulkL at hrb
  clear ho o1
  go_enter Try.func34, Try.ntmps34
  go_wp2_with fail
  refine (recordOk_any r _ _ _ (HO.out.below B1.out hf) (hf.up B1.out) hbk).mono ?_
  rintro e w2 ⟨rfl, hb2⟩
  have HB2 := hide (B1.out.trans (hb2.mono B1.out.size))
  have R2 := R1.below hb2 R1.lt
  have q0 := R2.cell 0
  have q1 := R2.cell 1
  have q2 := R2.cell 2
  have lr := R2.lt
  clear hb2
  by_cases h : r.fine
  · rw [tb_true h]
    have H := hide h
    clear h
    go_wp2_with fail
    refine (implPack_any r _ _ _ (HO.out.below HB2.out hf) (hf.up HB2.out) hbk H.out).mono ?_
    rintro e w3 ⟨rfl, hb3⟩
    have HB3 := hide (HB2.out.trans (hb3.mono HB2.out.size))
    have hsz := ba_size r.bytes
    by_cases h5 : (r.bytes.length : Int) ≤ 2000
    · have HE := hide (Record.packed_yes ⟨H.out, h5⟩)
      have hd : decide ((2000 : Int) < ((ba r.bytes).size : Int)) = false := by rw [hsz]; simp; omega
      clear hsz h5
      go_wp2
      go_ret
      exact ⟨ret_str HE.out.symm, HB3.out⟩
    · have HE := hide (Record.packed_no (x := r) (fun hh => h5 hh.2))
      have hd : decide ((2000 : Int) < ((ba r.bytes).size : Int)) = true := by rw [hsz]; simp; omega
      clear hsz h5
      go_wp2
      go_ret
      exact ⟨ret_str HE.out.symm, HB3.out⟩
  · rw [tb_false h]
    have HE := hide (Record.packed_no (x := r) (fun hh => h hh.1))
    clear h
    go_wp2
    go_ret
    exact ⟨ret_str HE.out.symm, HB2.out⟩

set_option maxRecDepth 100000 in
set_option maxHeartbeats 1000000 in
theorem specRecOk_any (r : Record) (us : List Value) (fp : List Nat) (w : World) (ho : OwC w r.cells us fp) (hf : Lt fp w.heap.size) (hbk : r.bulk ≤ 1048576) :
    Calls Try.prog 29 #[.agg us.toArray] w fun e w' => e = .returned (.bool (tb r.ok)) ∧ Below w.heap.size w w' := by
  have HO := hide ho
  obtain ⟨A1, c1, f1, rfl, w0, w1, o1, rfl⟩ := ho.oRecord
  obtain ⟨_, hcap, hmx⟩ := o1.nlen
  unfold maxLen at hmx
  have R1 : Row (w.alloc (.cells #[.int .i64 r.pos, .string r.key, .slice A1 r.events.length c1] 60)) w.heap.size 60 [.int .i64 r.pos, .string r.key, .slice A1 r.events.length c1] := Row.new w _ _
  have B1 := hide (show Below w.heap.size w (w.alloc (.cells #[.int .i64 r.pos, .string r.key, .slice A1 r.events.length c1] 60)) from (Below.refl _ _).alloc (Nat.le_refl _) _)
  have O1 := hide o1
  have hbe := Nat.le_trans r.bulk_events hbk
  have hrb := r.bulk_eq
  unfold Event.bulkL at hrb
  clear ho o1
  go_enter Try.func29, Try.ntmps29
  go_wp2_with fail
  refine (l6In_any _ _ _ _).mono ?_
  rintro e w' ⟨rfl, rfl⟩
  by_cases h1 : 1 ≤ r.pos ∧ r.pos ≤ 999999
  · rw [tb_true h1]
    have H1 := hide h1
    clear h1
    go_wp2_with fail
    refine (l6NameOk_any _ _ w1).mono ?_
    rintro e w' ⟨rfl, rfl⟩
    by_cases h2 : NameOk r.key
    · rw [tb_true h2]
      have H2 := hide h2
      clear h2
      go_wp2_with fail
      refine (l6In_any _ _ _ _).mono ?_
      rintro e w' ⟨rfl, rfl⟩
      by_cases h3 : 1 ≤ (r.events.length : Int) ∧ (r.events.length : Int) ≤ 40
      · rw [tb_true h3]
        have H3 := hide h3
        clear h3
        go_wp2
        go_loopw [3] (fun i wr => (∃ j : Nat, j ≤ r.events.length ∧ i = .int .i64 j ∧ ∀ a (h : a < r.events.length), a < j → r.events[a].ok) ∧ Below w.heap.size w wr ∧ Row wr w.heap.size 60 [.int .i64 r.pos, .string r.key, .slice A1 r.events.length c1]) (fun i _ => r.events.length - (intOf i).toNat)
        case atStart => exact ⟨⟨0, Nat.zero_le _, rfl, fun a h1 h => absurd h (by omega)⟩, B1.out, R1⟩
        case round =>
          obtain ⟨⟨j, hj, rfl, ha⟩, hbw, hrow⟩ := hrel
          have HA := hide ha
          have HB := hide hbw
          have q0 := hrow.cell 0
          have q1 := hrow.cell 1
          have q2 := hrow.cell 2
          have lr := hrow.lt
          clear ha hbw R1
          by_cases hlt : j < r.events.length
          · obtain ⟨g, off, ws, fi, rfl, hgm, hfi, hwl, hcs, hov⟩ := (O1.out.below HB.out hf).elem Event.cells_len hlt
            have HOT := hide hov
            have HFT := hide ((hf.up HB.out).sub hfi)
            have hbx : r.events[j].bulk ≤ 1048576 := by have := Event.bulk_at r.events j hlt; omega
            have hst := hide (fun (hx : r.events[j].ok) (a : Nat) (h : a < r.events.length) (hl : a < j + 1) => show r.events[a].ok from by
              by_cases e : a < j
              · exact HA.out a h e
              · obtain rfl : a = j := by omega
                exact hx)
            have hno := hide (fun (hx : ¬ r.events[j].ok) => tb_false (p := r.ok) (fun hh => hx (hh.1.2.2.2 j hlt)))
            obtain ⟨D1, d1, D2, d2, r1, r2, rfl, y0, y1, y2, y3, y4, z1, z2, rfl⟩ := hov.oEvent
            have p0 := hcs 0 _ rfl
            have p1 := hcs 1 _ rfl
            have p2 := hcs 2 _ rfl
            have p3 := hcs 3 _ rfl
            have p4 := hcs 4 _ rfl
            have p5 := hcs 5 _ rfl
            have p6 := hcs 6 _ rfl
            simp only [Nat.add_zero] at p0
            clear hcs hov z1 z2 hfi
            obtain ⟨x, hx⟩ : ∃ x, r.events[j] = x := ⟨_, rfl⟩
            rw [hx] at p0 p1 p2 p3 p4 p5 p6 HOT hbx hst hno
            clear hx
            go_wp2_with fail
            refine (specEventOk_any x _ _ _ HOT.out HFT.out hbx).mono ?_
            rintro e w2 ⟨rfl, hb2⟩
            have HB2 := hide (HB.out.trans (hb2.mono HB.out.size))
            have HR2 := hide (hrow.below hb2 lr)
            clear hb2 hrow q0 q1 q2 lr
            by_cases hx : x.ok
            · rw [tb_true hx]
              have HX := hide (hst.out hx)
              clear hx
              go_wp2
              go_roundw
              case rel => exact ⟨⟨j + 1, by omega, by go_num, HX.out⟩, HB2.out, HR2.out⟩
              case measure => simp [intOf]; omega
            · rw [tb_false hx]
              have HX := hide (hno.out hx)
              clear hx
              go_wp2
              go_ret
              exact ⟨ret_bool HX.out.symm, HB2.out⟩
          · obtain rfl : j = r.events.length := by omega
            have HF := hide (show r.fine from ⟨H1.out, H2.out, H3.out, fun i h => HA.out i h h⟩)
            go_wp2_with fail
            refine (specText_any r _ _ _ (HO.out.below HB.out hf) (hf.up HB.out) hbk HF.out).mono ?_
            rintro e w3 ⟨rfl, hb3⟩
            have HB3 := hide (HB.out.trans (hb3.mono HB.out.size))
            have hsz := ba_size r.bytes
            have HE := hide (show tb r.ok = tb ((r.bytes.length : Int) ≤ 2000) from congrArg tb (propext ⟨fun h => h.2, fun h => ⟨HF.out, h⟩⟩))
            by_cases h5 : (r.bytes.length : Int) ≤ 2000
            · rw [tb_true h5] at HE
              have hd : decide (((ba r.bytes).size : Int) ≤ 2000) = true := by rw [hsz]; simpa using h5
              clear hsz h5
              go_wp2
              go_ret
              exact ⟨ret_bool HE.out.symm, HB3.out⟩
            · rw [tb_false h5] at HE
              have hd : decide (((ba r.bytes).size : Int) ≤ 2000) = false := by rw [hsz]; simpa using h5
              clear hsz h5
              go_wp2
              go_ret
              exact ⟨ret_bool HE.out.symm, HB3.out⟩
      · rw [tb_false h3]
        have HT := hide (tb_false (p := r.ok) (fun h => h3 h.1.2.2.1))
        clear h3
        go_wp2
        go_ret
        exact ⟨ret_bool HT.out.symm, B1.out⟩
    · rw [tb_false h2]
      have HT := hide (tb_false (p := r.ok) (fun h => h2 h.1.2.1))
      clear h2
      go_wp2
      go_ret
      exact ⟨ret_bool HT.out.symm, B1.out⟩
  · rw [tb_false h1]
    have HT := hide (tb_false (p := r.ok) (fun h => h1 h.1.1))
    clear h1
    go_wp2
    go_ret
    exact ⟨ret_bool HT.out.symm, B1.out⟩

set_option maxRecDepth 100000 in
set_option maxHeartbeats 1000000 in
theorem specRecPack_any (r : Record) (us : List Value) (fp : List Nat) (w : World) (ho : OwC w r.cells us fp) (hf : Lt fp w.heap.size) (hbk : r.bulk ≤ 1048576) :
    Calls Try.prog 33 #[.agg us.toArray] w fun e w' => e = .returned (.string r.packed) ∧ Below w.heap.size w w' := by
  have HO := hide ho
  obtain ⟨A1, c1, f1, rfl, w0, w1, o1, rfl⟩ := ho.oRecord
  obtain ⟨_, hcap, hmx⟩ := o1.nlen
  unfold maxLen at hmx
  have R1 : Row (w.alloc (.cells #[.int .i64 r.pos, .string r.key, .slice A1 r.events.length c1] 60)) w.heap.size 60 [.int .i64 r.pos, .string r.key, .slice A1 r.events.length c1] := Row.new w _ _
  have B1 := hide (show Below w.heap.size w (w.alloc (.cells #[.int .i64 r.pos, .string r.key, .slice A1 r.events.length c1] 60)) from (Below.refl _ _).alloc (Nat.le_refl _) _)
  have O1 := hide o1
  have hbe := Nat.le_trans r.bulk_events hbk
  have hrb := r.bulk_eq
  unfold Event.bulkL at hrb
  clear ho o1
  go_enter Try.func33, Try.ntmps33
  go_wp2_with fail
  refine (specRecOk_any r _ _ _ (HO.out.below B1.out hf) (hf.up B1.out) hbk).mono ?_
  rintro e w2 ⟨rfl, hb2⟩
  have HB2 := hide (B1.out.trans (hb2.mono B1.out.size))
  have R2 := R1.below hb2 R1.lt
  have q0 := R2.cell 0
  have q1 := R2.cell 1
  have q2 := R2.cell 2
  have lr := R2.lt
  clear hb2
  by_cases h : r.ok
  · rw [tb_true h]
    have H := hide h
    have HE := hide (Record.packed_yes h)
    clear h
    go_wp2_with fail
    refine (specText_any r _ _ _ (HO.out.below HB2.out hf) (hf.up HB2.out) hbk H.out.1).mono ?_
    rintro e w3 ⟨rfl, hb3⟩
    have HB3 := hide (HB2.out.trans (hb3.mono HB2.out.size))
    go_wp2
    go_ret
    exact ⟨ret_str HE.out.symm, HB3.out⟩
  · rw [tb_false h]
    have HE := hide (Record.packed_no h)
    clear h
    go_wp2
    go_ret
    exact ⟨ret_str HE.out.symm, HB2.out⟩
end Go.Proofs.Ytfllacpmbcamkaa
