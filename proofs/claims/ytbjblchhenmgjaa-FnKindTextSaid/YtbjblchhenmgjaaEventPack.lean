/-
  The bytes of an event: EventPack of the program and of the reference.
-/
import Derived.Test.YtbjblchhenmgjaaPackU
import Derived.Test.YtbjblchhenmgjaaEventOk
import Derived.Test.YtbjblchhenmgjaaStep
set_option linter.unusedVariables false
set_option linter.unusedSimpArgs false
namespace Go.Proofs.Ytbjblchhenmgjaa
open Go.ChangeShapes Go.WideShapes Go.ChangeAt Go.RowKit

def Event.bytes (x : Event) : List UInt8 := short x.type_ ++ [UInt8.ofNat x.version.toNat] ++ x.body.pack
noncomputable def Event.packed (x : Event) : List UInt8 := if tb x.ok = true then x.bytes else []
theorem Event.packed_yes {x : Event} (h : x.ok) : x.packed = x.bytes := by unfold Event.packed; rw [tb_true h, if_pos rfl]
theorem Event.packed_no {x : Event} (h : ¬ x.ok) : x.packed = [] := by unfold Event.packed; rw [tb_false h]; rfl
theorem Event.bytes_len {x : Event} (h : x.ok) : x.bytes.length ≤ 9700 := by
  have h1 := Tree.pack_len _ _ h.2.2.2.1
  have h2 := h.2.2.2.2
  have h3 := short_len x.type_
  have h4 := h.1.2.1
  simp only [Event.bytes, List.length_append, List.length_cons, List.length_nil]
  omega
theorem Event.packed_len (x : Event) : x.packed.length ≤ 9700 := by
  by_cases h : x.ok
  · rw [Event.packed_yes h]; exact Event.bytes_len h
  · rw [Event.packed_no h]; simp

set_option maxRecDepth 100000 in
set_option maxHeartbeats 2000000 in
theorem implEventPack_any (x : Event) (us : List Value) (fp : List Nat) (w : World) (ho : OwC w x.cells us fp) (hf : Lt fp w.heap.size) (hbk : x.bulk ≤ 1048576) :
    Calls Try.prog 84 #[.agg us.toArray] w fun e w' => ∃ v', e = .returned v' ∧ Byt w' w.heap.size v' x.packed ∧ Below w.heap.size w w' := by
  have ho' := ho
  obtain ⟨A1, c1, A2, c2, f1, f2, rfl, w0, w1, w2, w3, w4, o1, o2, rfl⟩ := ho.oEvent
  have hw1 : Below w.heap.size w (w.alloc (.cells #[.string x.type_, .int .i64 x.version, .int .i64 x.body.sort, .int .i64 x.body.num, .string x.body.text, .slice A1 x.body.names.length c1, .slice A2 x.body.kids.length c2] 28)) := (Below.refl _ _).alloc (Nat.le_refl _) _
  have R1 : Row (w.alloc (.cells #[.string x.type_, .int .i64 x.version, .int .i64 x.body.sort, .int .i64 x.body.num, .string x.body.text, .slice A1 x.body.names.length c1, .slice A2 x.body.kids.length c2] 28)) w.heap.size 28 [.string x.type_, .int .i64 x.version, .int .i64 x.body.sort, .int .i64 x.body.num, .string x.body.text, .slice A1 x.body.names.length c1, .slice A2 x.body.kids.length c2] := Row.new w _ _
  have HO := hide ho'
  have BB := hide hw1
  clear ho ho' o1 o2 hw1
  go_enter Try.func84, Try.ntmps84
  go_wp2_with fail
  refine (implEventOk_any x _ _ _ (HO.out.below BB.out hf) (hf.up BB.out) hbk).mono ?_
  rintro e u2 ⟨rfl, hb2⟩
  have B2 := hide (BB.out.trans (hb2.mono BB.out.size))
  have R2 := R1.below hb2 R1.lt
  have lr := R2.lt
  clear hb2 R1
  by_cases h : x.ok
  · rw [tb_true h]
    have HP := hide (Event.packed_yes h)
    have hnm := h.1.2.1
    have hver := h.2.1
    have hlen := Event.bytes_len h
    have hbl : (short x.type_).length + 1 + x.body.pack.length ≤ 9700 := by
      simp only [Event.bytes, List.length_append, List.length_cons, List.length_nil] at hlen
      omega
    have hgood := hide h.2.2.2.1
    have hb5 : x.body.bulk ≤ 1048576 := Nat.le_trans x.body_bulk hbk
    have hvz : (x.version : Int) = ((UInt8.ofNat x.version.toNat).toNat : Int) := by rw [u8_of _ (by omega)]; omega
    have HV := hide hvz
    have hsl := short_len x.type_
    clear h hvz
    have q0 := R2.cell 0
    have q1 := R2.cell 1
    have q2 := R2.cell 2
    have q3 := R2.cell 3
    have q4 := R2.cell 4
    have q5 := R2.cell 5
    have q6 := R2.cell 6
    have hs255 : x.type_.size ≤ 255 := by omega
    have hl0 : ([] : List UInt8).length + (short x.type_).length ≤ 1073741824 := by simp only [List.length_nil]; omega
    have hl1 : ([] ++ short x.type_ : List UInt8).length + 1 ≤ 1099511627776 := by simp only [List.length_append, List.length_nil]; omega
    have hl2 : ([] ++ short x.type_ ++ [UInt8.ofNat x.version.toNat] : List UInt8).length + x.body.pack.length ≤ 1073741824 := by simp only [List.length_append, List.length_nil, List.length_cons]; omega
    have hevu : 28 ≠ 5 := by decide
    have hwv : IntKind.u8.wrap x.version = x.version := by simp only [IntKind.wrap, IntKind.bits, IntKind.signed]; simp; omega
    have HOB := hide (HO.out.below B2.out hf).oBody
    go_wp2
    go_region_held3 (fun w' => w'.cell? ⟨w.heap.size, 0, none⟩ = some (.string x.type_) ∧ w'.cell? ⟨w.heap.size, 1, none⟩ = some (.int .i64 x.version) ∧ w'.cell? ⟨w.heap.size, 2, none⟩ = some (.int .i64 x.body.sort) ∧ w'.cell? ⟨w.heap.size, 3, none⟩ = some (.int .i64 x.body.num) ∧ w'.cell? ⟨w.heap.size, 4, none⟩ = some (.string x.body.text) ∧ w'.cell? ⟨w.heap.size, 5, none⟩ = some (.slice A1 x.body.names.length c1) ∧ w'.cell? ⟨w.heap.size, 6, none⟩ = some (.slice A2 x.body.kids.length c2))
      (first | go_keep | exact ⟨RX7.cell 0, RX7.cell 1, RX7.cell 2, RX7.cell 3, RX7.cell 4, RX7.cell 5, RX7.cell 6⟩ | exact ⟨RX6.cell 0, RX6.cell 1, RX6.cell 2, RX6.cell 3, RX6.cell 4, RX6.cell 5, RX6.cell 6⟩ | exact ⟨RX5.cell 0, RX5.cell 1, RX5.cell 2, RX5.cell 3, RX5.cell 4, RX5.cell 5, RX5.cell 6⟩ | exact ⟨(RX5.alloc _).cell 0, (RX5.alloc _).cell 1, (RX5.alloc _).cell 2, (RX5.alloc _).cell 3, (RX5.alloc _).cell 4, (RX5.alloc _).cell 5, (RX5.alloc _).cell 6⟩)
      (first
        | (go_at_call 168; refine (packText_any [] x.type_ _ _ _ (Byt.nil _ _) (Nat.le_refl _) hs255 hl0).mono ?_; rintro e w5 ⟨v5, rfl, h5, k5⟩; have BX5 := Aft.below (u := u2) (.inl rfl) k5.below; have RX5 := R2.below BX5 lr; have H5 := h5.mono (Nat.le_trans B2.out.size (Aft.size (u := u2) (.inl rfl))))
        | (go_at_call 168; refine (packText_any [] x.type_ _ _ _ (Byt.nil _ _) (Nat.le_refl _) hs255 hl0).mono ?_; rintro e w5 ⟨v5, rfl, h5, k5⟩; have BX5 := Aft.below (u := u2) (.inr ⟨_, rfl⟩) k5.below; have RX5 := R2.below BX5 lr; have H5 := h5.mono (Nat.le_trans B2.out.size (Aft.size (u := u2) (.inr ⟨_, rfl⟩))))
        | (refine step_push1 _ _ (by rfl) _ _ (by rfl) w.heap.size _ _ (by rfl) H5 (UInt8.ofNat x.version.toNat) _ (by rfl) rfl HV.out hl1 (Nat.le_trans B2.out.size BX5.size) ?_; intro v6 w6 h6 k6; have RX6 := k6.rows _ _ _ RX5 hevu)
        | (refine step_push _ (by rfl) _ _ (by rfl) w.heap.size _ _ (by rfl) H5 _ _ (UInt8.ofNat x.version.toNat) _ (by rfl) (aft_cell k5.below) HV.out hl1 (Nat.le_trans B2.out.size BX5.size) ?_; intro v6 w6 h6 k6; have RX6 := k6.rows _ _ _ RX5 hevu)
        | (go_at_call 167; refine (packTree_any x.body _ _ 1 _ _ w.heap.size _ h6 (Nat.le_trans (Nat.le_trans B2.out.size BX5.size) k6.below.size) (HOB.out.below ((BX5.mono B2.out.size).trans k6.below) hf) hf hgood.out hb5 hl2).mono ?_; rintro e w7 ⟨v7, rfl, h7, k7⟩; have RX7 := k7.rows _ _ _ RX6 hevu))
    all_goals
      have HB7 := hide (B2.out.trans ((BX5.mono B2.out.size).trans (k6.below.trans k7.below)))
      have H7 := hide h7
      go_wp2
      go_ret
      exact ⟨v7, rfl, by rw [HP.out]; simpa [Event.bytes] using H7.out, HB7.out⟩
  · rw [tb_false h]
    have HP := hide (Event.packed_no h)
    clear h
    go_wp2
    go_ret
    exact ⟨_, rfl, by rw [HP.out]; exact Byt.nil _ _, B2.out⟩

set_option maxRecDepth 100000 in
set_option maxHeartbeats 2000000 in
theorem specEventPack_any (x : Event) (us : List Value) (fp : List Nat) (w : World) (ho : OwC w x.cells us fp) (hf : Lt fp w.heap.size) (hbk : x.bulk ≤ 1048576) :
    Calls Try.prog 79 #[.agg us.toArray] w fun e w' => ∃ v', e = .returned v' ∧ Byt w' w.heap.size v' x.packed ∧ Below w.heap.size w w' := by
  have ho' := ho
  obtain ⟨A1, c1, A2, c2, f1, f2, rfl, w0, w1, w2, w3, w4, o1, o2, rfl⟩ := ho.oEvent
  have hw1 : Below w.heap.size w (w.alloc (.cells #[.string x.type_, .int .i64 x.version, .int .i64 x.body.sort, .int .i64 x.body.num, .string x.body.text, .slice A1 x.body.names.length c1, .slice A2 x.body.kids.length c2] 28)) := (Below.refl _ _).alloc (Nat.le_refl _) _
  have R1 : Row (w.alloc (.cells #[.string x.type_, .int .i64 x.version, .int .i64 x.body.sort, .int .i64 x.body.num, .string x.body.text, .slice A1 x.body.names.length c1, .slice A2 x.body.kids.length c2] 28)) w.heap.size 28 [.string x.type_, .int .i64 x.version, .int .i64 x.body.sort, .int .i64 x.body.num, .string x.body.text, .slice A1 x.body.names.length c1, .slice A2 x.body.kids.length c2] := Row.new w _ _
  have HO := hide ho'
  have BB := hide hw1
  clear ho ho' o1 o2 hw1
  go_enter Try.func79, Try.ntmps79
  go_wp2_with fail
  refine (specEventOk_any x _ _ _ (HO.out.below BB.out hf) (hf.up BB.out) hbk).mono ?_
  rintro e u2 ⟨rfl, hb2⟩
  have B2 := hide (BB.out.trans (hb2.mono BB.out.size))
  have R2 := R1.below hb2 R1.lt
  have lr := R2.lt
  clear hb2 R1
  by_cases h : x.ok
  · rw [tb_true h]
    have HP := hide (Event.packed_yes h)
    have hnm := h.1.2.1
    have hver := h.2.1
    have hlen := Event.bytes_len h
    have hbl : (short x.type_).length + 1 + x.body.pack.length ≤ 9700 := by
      simp only [Event.bytes, List.length_append, List.length_cons, List.length_nil] at hlen
      omega
    have hgood := hide h.2.2.2.1
    have hb5 : x.body.bulk ≤ 1048576 := Nat.le_trans x.body_bulk hbk
    have hvz : (x.version : Int) = ((UInt8.ofNat x.version.toNat).toNat : Int) := by rw [u8_of _ (by omega)]; omega
    have HV := hide hvz
    have hsl := short_len x.type_
    clear h hvz
    have q0 := R2.cell 0
    have q1 := R2.cell 1
    have q2 := R2.cell 2
    have q3 := R2.cell 3
    have q4 := R2.cell 4
    have q5 := R2.cell 5
    have q6 := R2.cell 6
    have hs255 : x.type_.size ≤ 255 := by omega
    have hl1 : (short x.type_).length + 1 ≤ 1099511627776 := by omega
    have hevu : 28 ≠ 5 := by decide
    have hwv : IntKind.u8.wrap x.version = x.version := by simp only [IntKind.wrap, IntKind.bits, IntKind.signed]; simp; omega
    go_wp2
    go_region_held3 (fun w' => w'.cell? ⟨w.heap.size, 0, none⟩ = some (.string x.type_) ∧ w'.cell? ⟨w.heap.size, 1, none⟩ = some (.int .i64 x.version) ∧ w'.cell? ⟨w.heap.size, 2, none⟩ = some (.int .i64 x.body.sort) ∧ w'.cell? ⟨w.heap.size, 3, none⟩ = some (.int .i64 x.body.num) ∧ w'.cell? ⟨w.heap.size, 4, none⟩ = some (.string x.body.text) ∧ w'.cell? ⟨w.heap.size, 5, none⟩ = some (.slice A1 x.body.names.length c1) ∧ w'.cell? ⟨w.heap.size, 6, none⟩ = some (.slice A2 x.body.kids.length c2))
      (first | go_keep | exact ⟨RX6.cell 0, RX6.cell 1, RX6.cell 2, RX6.cell 3, RX6.cell 4, RX6.cell 5, RX6.cell 6⟩ | exact ⟨RX5.cell 0, RX5.cell 1, RX5.cell 2, RX5.cell 3, RX5.cell 4, RX5.cell 5, RX5.cell 6⟩ | exact ⟨(RX5.alloc _).cell 0, (RX5.alloc _).cell 1, (RX5.alloc _).cell 2, (RX5.alloc _).cell 3, (RX5.alloc _).cell 4, (RX5.alloc _).cell 5, (RX5.alloc _).cell 6⟩)
      (first
        | (go_at_call 163; refine (l4Short_any x.type_ _ hs255).mono ?_; rintro e w5 ⟨v5, rfl, h5, k5⟩; have BX5 := Aft.below (u := u2) (.inl rfl) k5; have RX5 := R2.below BX5 lr; have H5 := h5.mono (Nat.le_trans B2.out.size (Aft.size (u := u2) (.inl rfl))))
        | (go_at_call 163; refine (l4Short_any x.type_ _ hs255).mono ?_; rintro e w5 ⟨v5, rfl, h5, k5⟩; have BX5 := Aft.below (u := u2) (.inr ⟨_, rfl⟩) k5; have RX5 := R2.below BX5 lr; have H5 := h5.mono (Nat.le_trans B2.out.size (Aft.size (u := u2) (.inr ⟨_, rfl⟩))))
        | (refine step_push1 _ _ (by rfl) _ _ (by rfl) w.heap.size _ _ (by rfl) H5 (UInt8.ofNat x.version.toNat) _ (by rfl) rfl HV.out hl1 (Nat.le_trans B2.out.size BX5.size) ?_; intro v6 w6 h6 k6; have RX6 := k6.rows _ _ _ RX5 hevu)
        | (refine step_push _ (by rfl) _ _ (by rfl) w.heap.size _ _ (by rfl) H5 _ _ (UInt8.ofNat x.version.toNat) _ (by rfl) (aft_cell k5) HV.out hl1 (Nat.le_trans B2.out.size BX5.size) ?_; intro v6 w6 h6 k6; have RX6 := k6.rows _ _ _ RX5 hevu))
    all_goals
      have HB6 := hide (B2.out.trans ((BX5.mono B2.out.size).trans k6.below))
      have H6 := hide h6
      have b6 := HB6.out.size
      have r2 := RX6.cell 2
      have r3 := RX6.cell 3
      have r4 := RX6.cell 4
      have r5 := RX6.cell 5
      have r6 := RX6.cell 6
      have lr6 := RX6.lt
      clear h5 k5 h6 k6 q0 q1 q2 q3 q4 q5 q6 R2 lr RX5 BX5 H5
      go_wp2_with fail
      refine (packU_any x.body _ _ 1 _ ((HO.out.below HB6.out hf).oBody) (hf.mono b6) hgood.out hb5 (by omega)).mono ?_
      rintro e w7 ⟨v7, rfl, h7, k7⟩
      have HB7 := hide (H6.out.below k7)
      have B7 := hide (HB6.out.trans (k7.mono HB6.out.size))
      have b7 := k7.size
      clear r2 r3 r4 r5 r6 lr6
      go_wp2_with (at_builtin; refine wpl_bytes _ rfl _ _ rfl w.heap.size _ _ v7 _ _ rfl HB7.out rfl h7 (Tree.pack_ne _) ?pl ?pb ?_)
      case pl => (try simp); omega
      case pb => omega
      intro v8 w8 h8 k8
      go_wp2
      go_ret
      exact ⟨v8, rfl, by rw [HP.out]; simpa [Event.bytes] using h8, B7.out.trans k8.below⟩
  · rw [tb_false h]
    have HP := hide (Event.packed_no h)
    clear h
    go_wp2
    go_ret
    exact ⟨_, rfl, by rw [HP.out]; exact (show Byt _ _ _ [] from ⟨rfl, .inr ⟨_, 0, #[], rfl, Nat.le_refl _, heap_alloc_new _ _, Nat.le_refl _, by decide, rfl, rfl⟩⟩ : Byt (u2.alloc (.cells #[] 5)) u2.heap.size _ []).mono B2.out.size, B2.out.trans (((Below.refl _ _).alloc (Nat.le_refl _) _).mono B2.out.size)⟩
end Go.Proofs.Ytbjblchhenmgjaa
