/-
  One byte more, at a step of a region that draws its order. The bytes of an event: EventPack of the program and of the reference. How many bytes an event takes at most. Printed by gen/evback.py. An event read back from its bytes: plain definitions.
-/
import Derived.Deep.AppendLies
import Derived.Deep.RegionHeld3
import Derived.Test.YtnaecdoeldoipaaGreatDoorQTxt
import Derived.Test.YtnaecdoeldoipaaGreatDoorQPackU
import Derived.Test.YtnaecdoeldoipaaGreatDoorQEventOk
set_option linter.unusedVariables false
set_option linter.unusedSimpArgs false
namespace Go.Proofs.YtnaecdoeldoipaaGreatDoor
open Go.ChangeShapes Go.WideShapes Go.ChangeAt Go.RowKit

section
variable {ops : Array Oper} {o : Oper} {a : Act} {K : Act → World → Prop} {Q : Exit → Act → World → Prop} {E : Prop} (w : World)
theorem step_push (hgd : o.guard = none) (s x : Operand) (ho : o.op = .call { callee := .builtin .append, args := #[s, x], argTypes := #[22, 22] })
    (B : Nat) (v : Value) (bs : List UInt8) (hs : a.eval s = v) (hown : Byt w B v bs) (g c : Nat) (b : UInt8) (z : Int) (hx : a.eval x = .slice (some ⟨g, 0, none⟩) 1 c) (hc : w.cell? ⟨g, 0, none⟩ = some (.int .u8 z)) (hz : z = (b.toNat : Int)) (hl : bs.length + 1 ≤ 1099511627776) (hB : B ≤ w.heap.size)
    (h : ∀ v' w', Byt w' B v' (bs ++ [b]) → KB B w w' → K (a.put o.dst v') w') : if Region.wanted o (yielded ops a.tmps) = true then Oper.wp Tryz.prog o a w K Q else E := by
  subst hz
  obtain ⟨i0, hi, hz0, hz1, hz2⟩ := info_parts (show (Tryz.prog.info? 5).map (fun i => (i.zero, i.size, i.bytes)) = some (some (.int .u8 0), 1, 1) by kernel_rfl)
  refine step_append_lies w hgd s x 22 ho B 5 i0 (.int .u8 0) 1 1 Tryz.underlying22 hi hz0 hz1 hz2 rfl (by decide) v bs.length (u8s bs) hs hown ⟨g, 0, none⟩ 1 c (u8s [b]) hx rfl ?_ (u8s_one [b]) (by decide) (by unfold maxLen; omega) (by omega) hB _ rfl ?_
  · intro j u hj
    match j, hj with
    | 0, hj => simp [u8s] at hj; subst hj; simpa [Addr.add] using hc
  intro g1 cap w' hown' hgrow _ _
  refine h _ w' ?_ (KB.grown hown hgrow hB)
  unfold Byt
  rw [u8s_app, List.length_append]
  exact hown'
theorem step_push1 (z : Int) (hgd : o.guard = none) (s x : Operand) (ho : o.op = .call { callee := .builtin .append, args := #[s, x], argTypes := #[22, 22] })
    (B : Nat) (v : Value) (bs : List UInt8) (hs : a.eval s = v) (hown : Byt w B v bs) (b : UInt8) (g : Nat) (hx : a.eval x = .slice (some ⟨g, 0, none⟩) 1 1) (hg : g = w.heap.size) (hz : z = (b.toNat : Int)) (hl : bs.length + 1 ≤ 1099511627776) (hB : B ≤ w.heap.size)
    (h : ∀ v' w', Byt w' B v' (bs ++ [b]) → KB B w w' → K (a.put o.dst v') w') : if Region.wanted o (yielded ops a.tmps) = true then Oper.wp Tryz.prog o a (w.alloc (.cells #[.int .u8 z] 5)) K Q else E := by
  subst hg
  exact step_push _ hgd s x ho B v bs hs (hown.alloc _) w.heap.size 1 b z hx (by simp) hz hl (by simp; omega) (fun v' w' h1 h2 => h v' w' h1 (((KB.refl B w).alloc hB _).trans h2))
end
/-- A world behind the draw of a region, and perhaps one new row. -/
def Aft (u W : World) : Prop := W = u.drew ∨ ∃ o, W = u.drew.alloc o
theorem Aft.size {u W : World} (h : Aft u W) : u.heap.size ≤ W.heap.size := by
  rcases h with rfl | ⟨o, rfl⟩
  · exact Nat.le_refl _
  · rw [World.size_alloc]; exact Nat.le_succ _
theorem Aft.below {u W w' : World} (h : Aft u W) (k : Below W.heap.size W w') : Below u.heap.size u w' := by
  have h0 : Below u.heap.size u W := by
    rcases h with rfl | ⟨o, rfl⟩
    · exact ⟨rfl, rfl, rfl, Nat.le_refl _, fun _ _ => rfl⟩
    · exact (Below.refl u.heap.size u).drew.alloc (Nat.le_refl _) o
  exact h0.trans (k.mono h.size)
theorem aft_cell {u w' : World} {v : Value} {t : TypeId} (k : Below (u.drew.alloc (.cells #[v] t)).heap.size (u.drew.alloc (.cells #[v] t)) w') : w'.cell? ⟨u.heap.size, 0, none⟩ = some v := by
  rw [k.cell (p := ⟨u.heap.size, 0, none⟩) (by rw [World.size_alloc]; exact Nat.lt_succ_self _)]
  have h := cell_of_row (u.drew.alloc (.cells #[v] t)) u.drew.heap.size 0 #[v] t (0, 0) (heap_alloc_new u.drew _)
  exact h
end Go.Proofs.YtnaecdoeldoipaaGreatDoor
set_option linter.unusedVariables false
set_option linter.unusedSimpArgs false
namespace Go.Proofs.YtnaecdoeldoipaaGreatDoor
open Go.ChangeShapes Go.WideShapes Go.ChangeAt Go.RowKit

def Event.bytes (x : Event) : List UInt8 := short x.type_ ++ [UInt8.ofNat x.version.toNat] ++ x.body.pack
noncomputable def Event.packed (x : Event) : List UInt8 := if tb x.ok = true then x.bytes else []
theorem Event.packed_yes {x : Event} (h : x.ok) : x.packed = x.bytes := by unfold Event.packed; rw [tb_true h, if_pos rfl]
theorem Event.packed_no {x : Event} (h : ¬ x.ok) : x.packed = [] := by unfold Event.packed; rw [tb_false h]; rfl
theorem Event.bytes_len {x : Event} (h : x.ok) : x.bytes.length ≤ 9700 := by
  have h1 := Tree.pack_len _ _ h.2.2.2.1
  have h2 := h.2.2.2.2
  have h3 := short_len x.type_
  have h4 := h.1.2.1
  simp only [Event.bytes, List.length_append, List.length_cons, List.length_nil]
  omega
theorem Event.packed_len (x : Event) : x.packed.length ≤ 9700 := by
  by_cases h : x.ok
  · rw [Event.packed_yes h]; exact Event.bytes_len h
  · rw [Event.packed_no h]; simp

set_option maxRecDepth 100000 in
set_option maxHeartbeats 2000000 in
theorem implEventPack_any (x : Event) (us : List Value) (fp : List Nat) (w : World) (ho : OwC w x.cells us fp) (hf : Lt fp w.heap.size) (hbk : x.bulk ≤ 1048576) :
    Calls Tryz.prog 32 #[.agg us.toArray] w fun e w' => ∃ v', e = .returned v' ∧ Byt w' w.heap.size v' x.packed ∧ Below w.heap.size w w' := by
  have ho' := ho
  obtain ⟨A1, c1, A2, c2, f1, f2, rfl, w0, w1, w2, w3, w4, o1, o2, rfl⟩ := ho.oEvent
  have hw1 : Below w.heap.size w (w.alloc (.cells #[.string x.type_, .int .i64 x.version, .int .i64 x.body.sort, .int .i64 x.body.num, .string x.body.text, .slice A1 x.body.names.length c1, .slice A2 x.body.kids.length c2] 46)) := (Below.refl _ _).alloc (Nat.le_refl _) _
  have R1 : Row (w.alloc (.cells #[.string x.type_, .int .i64 x.version, .int .i64 x.body.sort, .int .i64 x.body.num, .string x.body.text, .slice A1 x.body.names.length c1, .slice A2 x.body.kids.length c2] 46)) w.heap.size 46 [.string x.type_, .int .i64 x.version, .int .i64 x.body.sort, .int .i64 x.body.num, .string x.body.text, .slice A1 x.body.names.length c1, .slice A2 x.body.kids.length c2] := Row.new w _ _
  have HO := hide ho'
  have BB := hide hw1
  clear ho ho' o1 o2 hw1
  go_enter Tryz.func32, Tryz.ntmps32
  go_wp2_with fail
  refine (implEventOk_any x _ _ _ (HO.out.below BB.out hf) (hf.up BB.out) hbk).mono ?_
  rintro e u2 ⟨rfl, hb2⟩
  have B2 := hide (BB.out.trans (hb2.mono BB.out.size))
  have R2 := R1.below hb2 R1.lt
  have lr := R2.lt
  clear hb2 R1
  by_cases h : x.ok
  · rw [tb_true h]
    have HP := hide (Event.packed_yes h)
    have hnm := h.1.2.1
    have hver := h.2.1
    have hlen := Event.bytes_len h
    have hbl : (short x.type_).length + 1 + x.body.pack.length ≤ 9700 := by
      simp only [Event.bytes, List.length_append, List.length_cons, List.length_nil] at hlen
      omega
    have hgood := hide h.2.2.2.1
    have hb5 : x.body.bulk ≤ 1048576 := Nat.le_trans x.body_bulk hbk
    have hvz : (x.version : Int) = ((UInt8.ofNat x.version.toNat).toNat : Int) := by rw [u8_of _ (by omega)]; omega
    have HV := hide hvz
    have hsl := short_len x.type_
    clear h hvz
    have q0 := R2.cell 0
    have q1 := R2.cell 1
    have q2 := R2.cell 2
    have q3 := R2.cell 3
    have q4 := R2.cell 4
    have q5 := R2.cell 5
    have q6 := R2.cell 6
    have hs255 : x.type_.size ≤ 255 := by omega
    have hl0 : ([] : List UInt8).length + (short x.type_).length ≤ 1073741824 := by simp only [List.length_nil]; omega
    have hl1 : ([] ++ short x.type_ : List UInt8).length + 1 ≤ 1099511627776 := by simp only [List.length_append, List.length_nil]; omega
    have hl2 : ([] ++ short x.type_ ++ [UInt8.ofNat x.version.toNat] : List UInt8).length + x.body.pack.length ≤ 1073741824 := by simp only [List.length_append, List.length_nil, List.length_cons]; omega
    have hevu : 46 ≠ 5 := by decide
    have hwv : IntKind.u8.wrap x.version = x.version := by simp only [IntKind.wrap, IntKind.bits, IntKind.signed]; simp; omega
    have HOB := hide (HO.out.below B2.out hf).oBody
    go_wp2
    go_region_held3 (fun w' => w'.cell? ⟨w.heap.size, 0, none⟩ = some (.string x.type_) ∧ w'.cell? ⟨w.heap.size, 1, none⟩ = some (.int .i64 x.version) ∧ w'.cell? ⟨w.heap.size, 2, none⟩ = some (.int .i64 x.body.sort) ∧ w'.cell? ⟨w.heap.size, 3, none⟩ = some (.int .i64 x.body.num) ∧ w'.cell? ⟨w.heap.size, 4, none⟩ = some (.string x.body.text) ∧ w'.cell? ⟨w.heap.size, 5, none⟩ = some (.slice A1 x.body.names.length c1) ∧ w'.cell? ⟨w.heap.size, 6, none⟩ = some (.slice A2 x.body.kids.length c2))
      (first | go_keep | exact ⟨RX7.cell 0, RX7.cell 1, RX7.cell 2, RX7.cell 3, RX7.cell 4, RX7.cell 5, RX7.cell 6⟩ | exact ⟨RX6.cell 0, RX6.cell 1, RX6.cell 2, RX6.cell 3, RX6.cell 4, RX6.cell 5, RX6.cell 6⟩ | exact ⟨RX5.cell 0, RX5.cell 1, RX5.cell 2, RX5.cell 3, RX5.cell 4, RX5.cell 5, RX5.cell 6⟩ | exact ⟨(RX5.alloc _).cell 0, (RX5.alloc _).cell 1, (RX5.alloc _).cell 2, (RX5.alloc _).cell 3, (RX5.alloc _).cell 4, (RX5.alloc _).cell 5, (RX5.alloc _).cell 6⟩)
      (first
        | (go_at_call 79; refine (packText_any [] x.type_ _ _ _ (Byt.nil _ _) (Nat.le_refl _) hs255 hl0).mono ?_; rintro e w5 ⟨v5, rfl, h5, k5⟩; have BX5 := Aft.below (u := u2) (.inl rfl) k5.below; have RX5 := R2.below BX5 lr; have H5 := h5.mono (Nat.le_trans B2.out.size (Aft.size (u := u2) (.inl rfl))))
        | (go_at_call 79; refine (packText_any [] x.type_ _ _ _ (Byt.nil _ _) (Nat.le_refl _) hs255 hl0).mono ?_; rintro e w5 ⟨v5, rfl, h5, k5⟩; have BX5 := Aft.below (u := u2) (.inr ⟨_, rfl⟩) k5.below; have RX5 := R2.below BX5 lr; have H5 := h5.mono (Nat.le_trans B2.out.size (Aft.size (u := u2) (.inr ⟨_, rfl⟩))))
        | (refine step_push1 _ _ (by rfl) _ _ (by rfl) w.heap.size _ _ (by rfl) H5 (UInt8.ofNat x.version.toNat) _ (by rfl) rfl HV.out hl1 (Nat.le_trans B2.out.size BX5.size) ?_; intro v6 w6 h6 k6; have RX6 := k6.rows _ _ _ RX5 hevu)
        | (refine step_push _ (by rfl) _ _ (by rfl) w.heap.size _ _ (by rfl) H5 _ _ (UInt8.ofNat x.version.toNat) _ (by rfl) (aft_cell k5.below) HV.out hl1 (Nat.le_trans B2.out.size BX5.size) ?_; intro v6 w6 h6 k6; have RX6 := k6.rows _ _ _ RX5 hevu)
        | (go_at_call 78; refine (packTree_any x.body _ _ 1 _ _ w.heap.size _ h6 (Nat.le_trans (Nat.le_trans B2.out.size BX5.size) k6.below.size) (HOB.out.below ((BX5.mono B2.out.size).trans k6.below) hf) hf hgood.out hb5 hl2).mono ?_; rintro e w7 ⟨v7, rfl, h7, k7⟩; have RX7 := k7.rows _ _ _ RX6 hevu))
    all_goals
      have HB7 := hide (B2.out.trans ((BX5.mono B2.out.size).trans (k6.below.trans k7.below)))
      have H7 := hide h7
      go_wp2
      go_ret
      exact ⟨v7, rfl, by rw [HP.out]; simpa [Event.bytes] using H7.out, HB7.out⟩
  · rw [tb_false h]
    have HP := hide (Event.packed_no h)
    clear h
    go_wp2
    go_ret
    exact ⟨_, rfl, by rw [HP.out]; exact Byt.nil _ _, B2.out⟩

set_option maxRecDepth 100000 in
set_option maxHeartbeats 2000000 in
theorem specEventPack_any (x : Event) (us : List Value) (fp : List Nat) (w : World) (ho : OwC w x.cells us fp) (hf : Lt fp w.heap.size) (hbk : x.bulk ≤ 1048576) :
    Calls Tryz.prog 31 #[.agg us.toArray] w fun e w' => ∃ v', e = .returned v' ∧ Byt w' w.heap.size v' x.packed ∧ Below w.heap.size w w' := by
  have ho' := ho
  obtain ⟨A1, c1, A2, c2, f1, f2, rfl, w0, w1, w2, w3, w4, o1, o2, rfl⟩ := ho.oEvent
  have hw1 : Below w.heap.size w (w.alloc (.cells #[.string x.type_, .int .i64 x.version, .int .i64 x.body.sort, .int .i64 x.body.num, .string x.body.text, .slice A1 x.body.names.length c1, .slice A2 x.body.kids.length c2] 46)) := (Below.refl _ _).alloc (Nat.le_refl _) _
  have R1 : Row (w.alloc (.cells #[.string x.type_, .int .i64 x.version, .int .i64 x.body.sort, .int .i64 x.body.num, .string x.body.text, .slice A1 x.body.names.length c1, .slice A2 x.body.kids.length c2] 46)) w.heap.size 46 [.string x.type_, .int .i64 x.version, .int .i64 x.body.sort, .int .i64 x.body.num, .string x.body.text, .slice A1 x.body.names.length c1, .slice A2 x.body.kids.length c2] := Row.new w _ _
  have HO := hide ho'
  have BB := hide hw1
  clear ho ho' o1 o2 hw1
  go_enter Tryz.func31, Tryz.ntmps31
  go_wp2_with fail
  refine (specEventOk_any x _ _ _ (HO.out.below BB.out hf) (hf.up BB.out) hbk).mono ?_
  rintro e u2 ⟨rfl, hb2⟩
  have B2 := hide (BB.out.trans (hb2.mono BB.out.size))
  have R2 := R1.below hb2 R1.lt
  have lr := R2.lt
  clear hb2 R1
  by_cases h : x.ok
  · rw [tb_true h]
    have HP := hide (Event.packed_yes h)
    have hnm := h.1.2.1
    have hver := h.2.1
    have hlen := Event.bytes_len h
    have hbl : (short x.type_).length + 1 + x.body.pack.length ≤ 9700 := by
      simp only [Event.bytes, List.length_append, List.length_cons, List.length_nil] at hlen
      omega
    have hgood := hide h.2.2.2.1
    have hb5 : x.body.bulk ≤ 1048576 := Nat.le_trans x.body_bulk hbk
    have hvz : (x.version : Int) = ((UInt8.ofNat x.version.toNat).toNat : Int) := by rw [u8_of _ (by omega)]; omega
    have HV := hide hvz
    have hsl := short_len x.type_
    clear h hvz
    have q0 := R2.cell 0
    have q1 := R2.cell 1
    have q2 := R2.cell 2
    have q3 := R2.cell 3
    have q4 := R2.cell 4
    have q5 := R2.cell 5
    have q6 := R2.cell 6
    have hs255 : x.type_.size ≤ 255 := by omega
    have hl1 : (short x.type_).length + 1 ≤ 1099511627776 := by omega
    have hevu : 46 ≠ 5 := by decide
    have hwv : IntKind.u8.wrap x.version = x.version := by simp only [IntKind.wrap, IntKind.bits, IntKind.signed]; simp; omega
    go_wp2
    go_region_held3 (fun w' => w'.cell? ⟨w.heap.size, 0, none⟩ = some (.string x.type_) ∧ w'.cell? ⟨w.heap.size, 1, none⟩ = some (.int .i64 x.version) ∧ w'.cell? ⟨w.heap.size, 2, none⟩ = some (.int .i64 x.body.sort) ∧ w'.cell? ⟨w.heap.size, 3, none⟩ = some (.int .i64 x.body.num) ∧ w'.cell? ⟨w.heap.size, 4, none⟩ = some (.string x.body.text) ∧ w'.cell? ⟨w.heap.size, 5, none⟩ = some (.slice A1 x.body.names.length c1) ∧ w'.cell? ⟨w.heap.size, 6, none⟩ = some (.slice A2 x.body.kids.length c2))
      (first | go_keep | exact ⟨RX6.cell 0, RX6.cell 1, RX6.cell 2, RX6.cell 3, RX6.cell 4, RX6.cell 5, RX6.cell 6⟩ | exact ⟨RX5.cell 0, RX5.cell 1, RX5.cell 2, RX5.cell 3, RX5.cell 4, RX5.cell 5, RX5.cell 6⟩ | exact ⟨(RX5.alloc _).cell 0, (RX5.alloc _).cell 1, (RX5.alloc _).cell 2, (RX5.alloc _).cell 3, (RX5.alloc _).cell 4, (RX5.alloc _).cell 5, (RX5.alloc _).cell 6⟩)
      (first
        | (go_at_call 76; refine (l4Short_any x.type_ _ hs255).mono ?_; rintro e w5 ⟨v5, rfl, h5, k5⟩; have BX5 := Aft.below (u := u2) (.inl rfl) k5; have RX5 := R2.below BX5 lr; have H5 := h5.mono (Nat.le_trans B2.out.size (Aft.size (u := u2) (.inl rfl))))
        | (go_at_call 76; refine (l4Short_any x.type_ _ hs255).mono ?_; rintro e w5 ⟨v5, rfl, h5, k5⟩; have BX5 := Aft.below (u := u2) (.inr ⟨_, rfl⟩) k5; have RX5 := R2.below BX5 lr; have H5 := h5.mono (Nat.le_trans B2.out.size (Aft.size (u := u2) (.inr ⟨_, rfl⟩))))
        | (refine step_push1 _ _ (by rfl) _ _ (by rfl) w.heap.size _ _ (by rfl) H5 (UInt8.ofNat x.version.toNat) _ (by rfl) rfl HV.out hl1 (Nat.le_trans B2.out.size BX5.size) ?_; intro v6 w6 h6 k6; have RX6 := k6.rows _ _ _ RX5 hevu)
        | (refine step_push _ (by rfl) _ _ (by rfl) w.heap.size _ _ (by rfl) H5 _ _ (UInt8.ofNat x.version.toNat) _ (by rfl) (aft_cell k5) HV.out hl1 (Nat.le_trans B2.out.size BX5.size) ?_; intro v6 w6 h6 k6; have RX6 := k6.rows _ _ _ RX5 hevu))
    all_goals
      have HB6 := hide (B2.out.trans ((BX5.mono B2.out.size).trans k6.below))
      have H6 := hide h6
      have b6 := HB6.out.size
      have r2 := RX6.cell 2
      have r3 := RX6.cell 3
      have r4 := RX6.cell 4
      have r5 := RX6.cell 5
      have r6 := RX6.cell 6
      have lr6 := RX6.lt
      clear h5 k5 h6 k6 q0 q1 q2 q3 q4 q5 q6 R2 lr RX5 BX5 H5
      go_wp2_with fail
      refine (packU_any x.body _ _ 1 _ ((HO.out.below HB6.out hf).oBody) (hf.mono b6) hgood.out hb5 (by omega)).mono ?_
      rintro e w7 ⟨v7, rfl, h7, k7⟩
      have HB7 := hide (H6.out.below k7)
      have B7 := hide (HB6.out.trans (k7.mono HB6.out.size))
      have b7 := k7.size
      clear r2 r3 r4 r5 r6 lr6
      go_wp2_with (at_builtin; refine wpl_bytes _ rfl _ _ rfl w.heap.size _ _ v7 _ _ rfl HB7.out rfl h7 (Tree.pack_ne _) ?pl ?pb ?_)
      case pl => (try simp); omega
      case pb => omega
      intro v8 w8 h8 k8
      go_wp2
      go_ret
      exact ⟨v8, rfl, by rw [HP.out]; simpa [Event.bytes] using h8, B7.out.trans k8.below⟩
  · rw [tb_false h]
    have HP := hide (Event.packed_no h)
    clear h
    go_wp2
    go_ret
    exact ⟨_, rfl, by rw [HP.out]; exact (show Byt _ _ _ [] from ⟨rfl, .inr ⟨_, 0, #[], rfl, Nat.le_refl _, heap_alloc_new _ _, Nat.le_refl _, by decide, rfl, rfl⟩⟩ : Byt (u2.alloc (.cells #[] 5)) u2.heap.size _ []).mono B2.out.size, B2.out.trans (((Below.refl _ _).alloc (Nat.le_refl _) _).mono B2.out.size)⟩
end Go.Proofs.YtnaecdoeldoipaaGreatDoor
set_option linter.unusedVariables false
set_option linter.unusedSimpArgs false
namespace Go.Proofs.YtnaecdoeldoipaaGreatDoor
open Go.ChangeShapes Go.WideShapes Go.ChangeAt Go.RowKit

theorem Tree.packS_lenB : ∀ (l : List Tree) (f : Bool) (ns : List ByteArray), (∀ s ∈ ns, s.size ≤ 8) → (∀ x ∈ l, x.pack.length + 9 ≤ 71 * x.parts) → (Tree.packS f ns l).length ≤ 71 * Tree.partsS l
  | [], f, ns, _, _ => by simp [Tree.packS]
  | t :: r, f, ns, hn, hk => by
    have h1 := Tree.packS_lenB r f ns.tail (fun s hs => hn s (List.mem_of_mem_tail hs)) (fun x hx => hk x (by simp [hx]))
    have h2 := hk t (by simp)
    have h3 := headD_le ns hn
    have h4 := short_len (ns.headD .empty)
    simp only [Tree.packS, List.length_append, Tree.partsS]
    cases f <;> simp only [Bool.false_eq_true, if_false, if_true, List.length_nil] <;> omega
theorem Tree.pack_lenB : ∀ (t : Tree) (lv : Nat), t.good lv → t.pack.length + 9 ≤ 71 * t.parts := by
  intro t
  refine Tree.ind (P := fun t => ∀ lv, t.good lv → t.pack.length + 9 ≤ 71 * t.parts) (fun t ih => ?_) t
  intro lv h
  have hg := (Tree.good_iff _ _).1 h
  have hp := t.parts_eq
  have hk : ∀ x ∈ t.kids, x.pack.length + 9 ≤ 71 * x.parts := fun x hx => ih x hx (lv + 1) (Tree.goodS_memP _ _ hg.2.2 x hx)
  have hs := hg.2.1
  have h3 := Tree.packS_lenB t.kids (t.sort == 5) t.names (Tree.names_leP hs) hk
  have h4 := short_len t.text
  unfold Tree.shape at hs
  rw [t.pack_eq]
  by_cases e1 : t.sort = 1
  · rw [if_pos e1]
    have h5 : t.num.natAbs < 128 ^ 5 := by have : (128 : Nat) ^ 5 = 34359738368 := by decide
                                           omega
    have := sevens_len 4 _ h5
    simp only [List.length_cons, numB]
    omega
  by_cases e2 : t.sort = 2
  · rw [if_neg e1, if_pos e2]
    have : t.text.size ≤ 60 := by
      have h6 : TextOk t.text := by
        rcases hs with h | h | h | h | h | h
        · omega
        · exact h.2.2.1
        · omega
        · omega
        · omega
        · omega
      exact h6.1
    simp only [List.length_cons]
    omega
  by_cases e3 : t.sort = 3
  · rw [if_neg e1, if_neg e2, if_pos e3]
    simp only [List.length_cons, List.length_nil]
    omega
  rw [if_neg e1, if_neg e2, if_neg e3]
  simp only [List.length_cons]
  omega
theorem Event.bytes_lenB {x : Event} (h : x.ok) : x.bytes.length ≤ 9000 := by
  have h1 := Tree.pack_lenB _ _ h.2.2.2.1
  have h2 := h.2.2.2.2
  have h3 := short_len x.type_
  have h4 := h.1.2.1
  simp only [Event.bytes, List.length_append, List.length_cons, List.length_nil]
  omega
end Go.Proofs.YtnaecdoeldoipaaGreatDoor
set_option linter.unusedVariables false
set_option linter.unusedSimpArgs false
namespace Go.Proofs.YtnaecdoeldoipaaGreatDoor
open Go.ChangeShapes Go.WideShapes Go.ChangeAt Go.RowKit

def pOne : List UInt8 → Option (Int × List UInt8)
  | [] => none
  | x :: r => some ((x.toNat : Int), r)
def pShort : List UInt8 → Option (ByteArray × List UInt8)
  | [] => none
  | x :: r => if x.toNat ≤ r.length then some (ba (r.take x.toNat), r.drop x.toNat) else none
/-- a size by sevens, of so many bytes at most; strict: it must end -/
def pSev (strict : Bool) : Nat → Nat → Nat → List UInt8 → Option (Nat × List UInt8)
  | 0, _, n, l => if strict then none else some (n, l)
  | _ + 1, _, _, [] => none
  | k + 1, p, n, x :: l => if x.toNat < 128 then some (n + x.toNat % 128 * p, l) else pSev strict k (p * 128) (n + x.toNat % 128 * p) l
def signed (s : UInt8) (n : Nat) : Int := if s.toNat = 1 then -(n : Int) else (n : Int)
def pNum (strict : Bool) : List UInt8 → Option (Int × List UInt8)
  | [] => none
  | s :: r => (pSev strict 5 1 0 r).map (fun p => (signed s p.1, p.2))
/-- so many kids, with names if it is a form; what is there already stands ahead -/
def pKids (rd : List UInt8 → Option (Tree × List UInt8)) (form : Bool) : Nat → List ByteArray → List Tree → List UInt8 → Option (List ByteArray × List Tree × List UInt8)
  | 0, ns, ks, l => some (ns, ks, l)
  | n + 1, ns, ks, l =>
    match (if form then pShort l else some (.empty, l)) with
    | none => none
    | some (s, l1) =>
      match rd l1 with
      | none => none
      | some (t, l2) => pKids rd form n (if form then ns ++ [s] else ns) (ks ++ [t]) l2
def pMany (rd : List UInt8 → Option (Tree × List UInt8)) (s : Nat) : List UInt8 → Option (Tree × List UInt8)
  | [] => none
  | n :: l => (pKids rd (s == 5) n.toNat [] [] l).map (fun p => (.mk (s : Int) 0 .empty p.1 p.2.1, p.2.2))
def pTree (strict : Bool) : Nat → List UInt8 → Option (Tree × List UInt8)
  | 0, _ => none
  | _ + 1, [] => none
  | f + 1, s :: l =>
    if s.toNat = 1 then (pNum strict l).map (fun p => (.mk 1 p.1 .empty [] [], p.2))
    else if s.toNat = 2 then (pShort l).map (fun p => (.mk 2 0 p.1 [] [], p.2))
    else if s.toNat = 3 then (pOne l).map (fun p => (.mk 3 p.1 .empty [] [], p.2))
    else pMany (pTree strict f) s.toNat l
def pEvent (strict : Bool) (l : List UInt8) : Option (Event × List UInt8) :=
  match pShort l with
  | none => none
  | some (ty, l1) =>
    match pOne l1 with
    | none => none
    | some (v, l2) => (pTree strict 6 l2).map (fun p => (⟨ty, v, p.1⟩, p.2))

/-! ### What is packed is read back -/
theorem pShort_back (s : ByteArray) (h : s.size < 256) (r : List UInt8) : pShort (short s ++ r) = some (s, r) := by
  have hl : s.data.toList.length = s.size := by rw [Array.length_toList]; rfl
  simp only [short, List.cons_append, pShort, u8_nat _ h]
  rw [if_pos (by rw [List.length_append, hl]; omega), ← hl, List.take_left, List.drop_left]
  simp [ba]
theorem pSev_back (strict : Bool) : ∀ (k n p a : Nat) (r : List UInt8), n < 128 ^ (k + 1) → pSev strict (k + 1) p a (sevens n ++ r) = some (a + n * p, r)
  | 0, n, p, a, r, h => by
    have h' : n < 128 := by simpa using h
    rw [sevens_lt h']
    simp only [List.cons_append, List.nil_append, pSev, u8_nat n (by omega)]
    rw [if_pos h', Nat.mod_eq_of_lt h']
  | k + 1, n, p, a, r, h => by
    by_cases h1 : n < 128
    · rw [sevens_lt h1]
      simp only [List.cons_append, List.nil_append, pSev, u8_nat n (by omega)]
      rw [if_pos h1, Nat.mod_eq_of_lt h1]
    · rw [sevens_ge (by omega), List.cons_append, pSev, u8_nat _ (by omega), if_neg (by omega)]
      rw [pSev_back strict k (n / 128) _ _ r (by rw [Nat.div_lt_iff_lt_mul (by decide)]; rwa [Nat.pow_succ] at h)]
      have e1 : (n % 128 + 128) % 128 = n % 128 := by omega
      rw [e1]
      congr 2
      have e2 := Nat.div_add_mod n 128
      have e3 : n / 128 * (p * 128) = 128 * (n / 128) * p := by rw [Nat.mul_comm p 128, ← Nat.mul_assoc, Nat.mul_comm (n / 128) 128]
      rw [e3, Nat.add_assoc, ← Nat.add_mul, Nat.add_comm (n % 128)]
      rw [e2]
theorem pNum_back (strict : Bool) (n : Int) (h1 : -999999999 ≤ n) (h2 : n ≤ 999999999) (r : List UInt8) : pNum strict (numB n ++ r) = some (n, r) := by
  have e5 : (128 : Nat) ^ (4 + 1) = 34359738368 := by decide
  simp only [numB, List.cons_append, pNum]
  rw [pSev_back strict 4 n.natAbs 1 0 r (by omega)]
  simp only [Option.map_some, Nat.zero_add, Nat.mul_one]
  unfold signed
  by_cases h : n < 0
  · rw [if_pos h, if_pos (by decide)]
    congr 2
    omega
  · rw [if_neg h, if_neg (by decide)]
    congr 2
    omega
theorem pKids_back (rd : List UInt8 → Option (Tree × List UInt8)) (form : Bool) : ∀ (l : List Tree) (ns : List ByteArray) (an : List ByteArray) (ak : List Tree) (r : List UInt8), (form = true → ns.length = l.length) → (∀ s ∈ ns, s.size ≤ 8) →
    (∀ x ∈ l, ∀ r, rd (x.pack ++ r) = some (x, r)) → pKids rd form l.length an ak (Tree.packS form ns l ++ r) = some (if form then an ++ ns else an, ak ++ l, r)
  | [], ns, an, ak, r, hn, hs, hr => by
    simp only [List.length_nil, pKids, Tree.packS, List.nil_append, List.append_nil]
    cases form
    · rfl
    · have : ns = [] := List.eq_nil_of_length_eq_zero (by simpa using hn rfl)
      simp [this]
  | t :: l, ns, an, ak, r, hn, hs, hr => by
    simp only [List.length_cons, pKids, Tree.packS]
    cases form
    · simp only [Bool.false_eq_true, if_false, List.nil_append, List.append_assoc]
      rw [hr t (by simp)]
      simp only
      rw [pKids_back rd false l ns.tail an (ak ++ [t]) r (by simp) (fun s h => hs s (List.mem_of_mem_tail h)) (fun x hx => hr x (by simp [hx]))]
      simp
    · match ns, hn rfl with
      | s :: ns, h =>
        simp only [if_true, List.headD_cons, List.tail_cons, List.append_assoc]
        rw [pShort_back s (by have := hs s (by simp); omega)]
        simp only
        rw [hr t (by simp)]
        simp only
        rw [pKids_back rd true l ns (an ++ [s]) (ak ++ [t]) r (fun _ => by simpa using h) (fun x hx => hs x (by simp [hx])) (fun x hx => hr x (by simp [hx]))]
        simp
theorem mk_tree {t : Tree} {s n : Int} {x : ByteArray} {ns : List ByteArray} {ks : List Tree} (h1 : t.sort = s) (h2 : t.num = n) (h3 : t.text = x) (h4 : t.names = ns) (h5 : t.kids = ks) : (Tree.mk s n x ns ks) = t := by
  cases t
  simp only [Tree.sort, Tree.num, Tree.text, Tree.names, Tree.kids] at *
  subst h1 h2 h3 h4 h5
  rfl
theorem txt_nil {s : ByteArray} (h : s.toList = []) : s = .empty := txt_inj (by rw [h, ByteArray.toList_eq]; rfl)
theorem nil_of {α : Type} {l : List α} (h : l.length = 0) : l = [] := List.eq_nil_of_length_eq_zero h
theorem Tree.kids_le : ∀ (l : List Tree), l.length ≤ Tree.partsS l
  | [] => by simp
  | x :: r => by
    have := Tree.kids_le r
    have := x.parts_eq
    simp only [List.length_cons, Tree.partsS]
    omega
theorem Tree.partsS_mem : ∀ (l : List Tree), ∀ x ∈ l, x.parts ≤ Tree.partsS l
  | x :: r, y, hy => by
    simp only [Tree.partsS]
    rcases List.mem_cons.1 hy with rfl | hy
    · omega
    · have := Tree.partsS_mem r y hy
      omega
theorem pTree_back (strict : Bool) : ∀ (t : Tree) (lv f : Nat) (r : List UInt8), t.good lv → t.parts ≤ 120 → 7 ≤ lv + f → pTree strict f (t.pack ++ r) = some (t, r) := by
  intro t
  refine Tree.ind (P := fun t => ∀ (lv f : Nat) (r : List UInt8), t.good lv → t.parts ≤ 120 → 7 ≤ lv + f → pTree strict f (t.pack ++ r) = some (t, r)) (fun t ih => ?_) t
  intro lv f r h hp hf
  have hg := (Tree.good_iff _ _).1 h
  have hs := hg.2.1
  have hnm := Tree.names_leP hs
  have hpe := t.parts_eq
  have hkl := Tree.kids_le t.kids
  unfold Tree.shape at hs
  obtain ⟨f, rfl⟩ : ∃ f', f = f' + 1 := ⟨f - 1, by omega⟩
  have hso : (UInt8.ofNat t.sort.toNat).toNat = t.sort.toNat := u8_nat _ (by omega)
  have hk : ∀ x ∈ t.kids, ∀ r, pTree strict f (x.pack ++ r) = some (x, r) := fun x hx r => ih x hx (lv + 1) f r (Tree.goodS_memP _ _ hg.2.2 x hx) (by have := Tree.partsS_mem t.kids x hx; omega) (by omega)
  have hcnt : (UInt8.ofNat t.kids.length).toNat = t.kids.length := u8_nat _ (by omega)
  rw [t.pack_eq, List.cons_append, pTree, hso]
  rcases hs with ⟨e, h1, h2, h3, h4⟩ | ⟨e, h1, h2, h3, h4⟩ | ⟨e, h1, h2, h3, h4⟩ | ⟨e, h1, h2, h3, h4⟩ | ⟨e, h1, h2, h3, h4⟩ | ⟨e, h1, h2, h3, h4⟩
  · rw [if_pos (by omega), if_pos e, pNum_back strict _ h1.1 h1.2]
    simp only [Option.map_some]
    rw [mk_tree (t := t) e rfl (txt_nil h2) (nil_of h3) (nil_of h4)]
  · rw [if_neg (by omega), if_pos (by omega), if_neg (by omega), if_pos e, pShort_back _ (by have := h2.1; omega)]
    simp only [Option.map_some]
    rw [mk_tree (t := t) e h1 rfl (nil_of h3) (nil_of h4)]
  · rw [if_neg (by omega), if_neg (by omega), if_pos (by omega), if_neg (by omega), if_neg (by omega), if_pos e]
    simp only [List.cons_append, List.nil_append, pOne, Option.map_some, u8_nat t.num.toNat (by omega)]
    rw [mk_tree (t := t) e (show t.num = (t.num.toNat : Int) by omega) (txt_nil h2) (nil_of h3) (nil_of h4)]
  all_goals
    rw [if_neg (by omega), if_neg (by omega), if_neg (by omega), if_neg (by omega), if_neg (by omega), if_neg (by omega)]
    simp only [List.cons_append, pMany, hcnt]
  · have e1 : (t.sort == 5) = false := by simp; omega
    have e2 : (t.sort.toNat == 5) = false := by simp; omega
    rw [e1, e2, pKids_back _ false t.kids t.names [] [] r (by simp) hnm hk]
    simp only [Option.map_some, List.nil_append, Bool.false_eq_true, if_false]
    rw [mk_tree (t := t) (show t.sort = (t.sort.toNat : Int) by omega) h1 (txt_nil h2) (nil_of h3) rfl]
  · have e1 : (t.sort == 5) = true := by simp; omega
    have e2 : (t.sort.toNat == 5) = true := by simp; omega
    rw [e1, e2, pKids_back _ true t.kids t.names [] [] r (fun _ => h4) hnm hk]
    simp only [Option.map_some, List.nil_append, if_true]
    rw [mk_tree (t := t) (show t.sort = (t.sort.toNat : Int) by omega) h1 (txt_nil h2) rfl rfl]
  · have e1 : (t.sort == 5) = false := by simp; omega
    have e2 : (t.sort.toNat == 5) = false := by simp; omega
    rw [e1, e2, pKids_back _ false t.kids t.names [] [] r (by simp) hnm hk]
    simp only [Option.map_some, List.nil_append, Bool.false_eq_true, if_false]
    rw [mk_tree (t := t) (show t.sort = (t.sort.toNat : Int) by omega) h1 (txt_nil h2) (nil_of h3) rfl]
theorem pEvent_back (strict : Bool) (x : Event) (h : x.ok) : pEvent strict x.bytes = some (x, []) := by
  unfold Event.bytes pEvent
  have h1 := h.1.2.1
  have h2 := h.2.1
  rw [List.append_assoc, pShort_back _ (by omega)]
  simp only [List.cons_append, List.nil_append, pOne, u8_nat x.version.toNat (by omega)]
  have h3 := pTree_back strict x.body 1 6 [] h.2.2.2.1 (by have := h.2.2.2.2; omega) (by omega)
  rw [List.append_nil] at h3
  rw [h3]
  simp only [Option.map_some]
  have e : ((x.version.toNat : Nat) : Int) = x.version := by omega
  rw [e]

/-! ### What is read is not larger than what was there -/
theorem pShort_bulk {l : List UInt8} {s : ByteArray} {r : List UInt8} (h : pShort l = some (s, r)) : s.size + r.length + 1 = l.length ∧ s.size ≤ 255 := by
  cases l with
  | nil => simp [pShort] at h
  | cons x l =>
    simp only [pShort] at h
    split at h
    · rename_i hx
      injection h with h
      injection h with h1 h2
      subst h1 h2
      have := x.toNat_lt
      simp only [ba_size, List.length_take, List.length_drop, List.length_cons]
      omega
    · cases h
theorem pOne_bulk {l : List UInt8} {n : Int} {r : List UInt8} (h : pOne l = some (n, r)) : r.length + 1 = l.length ∧ 0 ≤ n ∧ n ≤ 255 := by
  cases l with
  | nil => simp [pOne] at h
  | cons x l =>
    simp only [pOne] at h
    injection h with h
    injection h with h1 h2
    subst h1 h2
    have := x.toNat_lt
    refine ⟨by simp, by omega, by omega⟩
theorem pSev_bulk (strict : Bool) : ∀ (k p n : Nat) (l : List UInt8) {m : Nat} {r : List UInt8}, pSev strict k p n l = some (m, r) → r.length ≤ l.length
  | 0, _, _, l, m, r, h => by
    simp only [pSev] at h
    split at h
    · cases h
    · injection h with h
      injection h with h1 h2
      subst h2
      exact Nat.le_refl _
  | k + 1, _, _, [], m, r, h => by simp [pSev] at h
  | k + 1, p, n, x :: l, m, r, h => by
    simp only [pSev] at h
    simp only [List.length_cons]
    split at h
    · injection h with h
      injection h with h1 h2
      subst h2
      omega
    · have := pSev_bulk strict k _ _ l h
      omega
theorem pNum_bulk {strict : Bool} {l : List UInt8} {n : Int} {r : List UInt8} (h : pNum strict l = some (n, r)) : r.length + 1 ≤ l.length := by
  cases l with
  | nil => simp [pNum] at h
  | cons s l =>
    simp only [pNum, Option.map_eq_some_iff] at h
    obtain ⟨⟨a, b⟩, h1, h2⟩ := h
    injection h2 with h2 h3
    subst h3
    have := pSev_bulk strict _ _ _ _ h1
    simp only [List.length_cons]
    omega
theorem pKids_bulk {rd : List UInt8 → Option (Tree × List UInt8)} (form : Bool) (hrd : ∀ {l : List UInt8} {t : Tree} {r : List UInt8}, rd l = some (t, r) → t.bulk + r.length + 1 ≤ l.length) : ∀ (n : Nat) (ns : List ByteArray) (ks : List Tree) (l : List UInt8) {ns' : List ByteArray} {ks' : List Tree} {r : List UInt8},
    pKids rd form n ns ks l = some (ns', ks', r) → bulkStrs ns' + ks'.length + Tree.bulkS ks' + r.length ≤ bulkStrs ns + ks.length + Tree.bulkS ks + l.length
  | 0, ns, ks, l, ns', ks', r, h => by
    simp only [pKids, Option.some.injEq, Prod.mk.injEq] at h
    obtain ⟨rfl, rfl, rfl⟩ := h
    exact Nat.le_refl _
  | n + 1, ns, ks, l, ns', ks', r, h => by
    simp only [pKids] at h
    split at h
    · cases h
    · rename_i s l1 h1
      split at h
      · cases h
      · rename_i t l2 h2
        have h3 := pKids_bulk form hrd n _ _ _ h
        have h4 := hrd h2
        have h5 : Tree.bulkS (ks ++ [t]) = Tree.bulkS ks + t.bulk := by rw [Tree.bulkS_append]; simp [Tree.bulkS]
        rw [h5, List.length_append] at h3
        simp only [List.length_cons, List.length_nil] at h3
        cases form
        · simp only [Bool.false_eq_true, if_false, Option.some.injEq, Prod.mk.injEq] at h1 h3
          obtain ⟨_, rfl⟩ := h1
          omega
        · simp only [if_true] at h1 h3
          have h6 := pShort_bulk h1
          have h7 : bulkStrs (ns ++ [s]) = bulkStrs ns + s.size + 1 := by
            unfold bulkStrs
            rw [bulkStr_append, List.length_append]
            simp [bulkStr]
            omega
          omega
theorem pTree_bulk (strict : Bool) : ∀ (f : Nat) {l : List UInt8} {t : Tree} {r : List UInt8}, pTree strict f l = some (t, r) → t.bulk + r.length + 1 ≤ l.length
  | 0, l, t, r, h => by simp [pTree] at h
  | f + 1, [], t, r, h => by simp [pTree] at h
  | f + 1, s :: l, t, r, h => by
    simp only [pTree] at h
    have eb : (ByteArray.empty).size = 0 := rfl
    simp only [List.length_cons]
    split at h
    · simp only [Option.map_eq_some_iff, Prod.mk.injEq] at h
      obtain ⟨⟨a, b⟩, h1, rfl, rfl⟩ := h
      have := pNum_bulk h1
      simp only [Tree.bulk, bulkStrs, bulkStr, Tree.bulkS, List.length_nil, eb]
      omega
    split at h
    · simp only [Option.map_eq_some_iff, Prod.mk.injEq] at h
      obtain ⟨⟨a, b⟩, h1, rfl, rfl⟩ := h
      have := pShort_bulk h1
      simp only [Tree.bulk, bulkStrs, bulkStr, Tree.bulkS, List.length_nil]
      omega
    split at h
    · simp only [Option.map_eq_some_iff, Prod.mk.injEq] at h
      obtain ⟨⟨a, b⟩, h1, rfl, rfl⟩ := h
      have := pOne_bulk h1
      simp only [Tree.bulk, bulkStrs, bulkStr, Tree.bulkS, List.length_nil, eb]
      omega
    cases l with
    | nil => simp [pMany] at h
    | cons n l' =>
      simp only [pMany, Option.map_eq_some_iff, Prod.mk.injEq] at h
      obtain ⟨⟨a, b, c⟩, h1, rfl, rfl⟩ := h
      have := pKids_bulk _ (fun h => pTree_bulk strict f h) _ _ _ _ h1
      simp only [Tree.bulk, bulkStrs, bulkStr, Tree.bulkS, List.length_nil, List.length_cons, eb] at this ⊢
      omega
theorem pEvent_bulk {strict : Bool} {l : List UInt8} {x : Event} {r : List UInt8} (h : pEvent strict l = some (x, r)) : x.bulk ≤ l.length := by
  unfold pEvent at h
  split at h
  · cases h
  · rename_i ty l1 h1
    split at h
    · cases h
    · rename_i v l2 h2
      simp only [Option.map_eq_some_iff, Prod.mk.injEq] at h
      obtain ⟨⟨a, b⟩, h3, rfl, rfl⟩ := h
      have := pShort_bulk h1
      have := pOne_bulk h2
      have := pTree_bulk strict _ h3
      show ty.size + a.bulk ≤ _
      omega

/-! ### What EventUnpack answers -/
def Event.none_ : Event := ⟨.empty, 0, .mk 0 0 .empty [] []⟩
def Event.from (l : List UInt8) (x : Event) : Prop := x.ok ∧ x.bytes = l ∧ l.length ≤ 9000
open Classical in
noncomputable def unpackE (l : List UInt8) : Event := if h : ∃ x, Event.from l x then h.choose else Event.none_
noncomputable def unpackB (l : List UInt8) : Bool := tb (∃ x, Event.from l x)
theorem unpack_yes {l : List UInt8} {x : Event} (h : Event.from l x) : unpackE l = x ∧ unpackB l = true := by
  have hex : ∃ x, Event.from l x := ⟨x, h⟩
  refine ⟨?_, tb_true hex⟩
  unfold unpackE
  rw [dif_pos hex]
  have hy := hex.choose_spec
  have h1 := pEvent_back true _ hy.1
  have h2 := pEvent_back true _ h.1
  rw [hy.2.1] at h1
  rw [h.2.1, h1] at h2
  simp only [Option.some.injEq, Prod.mk.injEq, and_true] at h2
  exact h2
theorem unpack_no {l : List UInt8} (h : ∀ x, ¬ Event.from l x) : unpackE l = Event.none_ ∧ unpackB l = false := by
  have hex : ¬ ∃ x, Event.from l x := fun ⟨x, hx⟩ => h x hx
  refine ⟨?_, tb_false hex⟩
  unfold unpackE
  rw [dif_neg hex]
/-- what a reader that goes wrong, or leaves something, has found -/
theorem unpack_bad {strict : Bool} {l : List UInt8} (h : ∀ x, pEvent strict l ≠ some (x, [])) : unpackE l = Event.none_ ∧ unpackB l = false :=
  unpack_no (fun x hx => h x (by rw [← hx.2.1]; exact pEvent_back strict x hx.1))
theorem unpack_other {strict : Bool} {l : List UInt8} {x : Event} (h : pEvent strict l = some (x, [])) (hn : ¬ Event.from l x) : unpackE l = Event.none_ ∧ unpackB l = false :=
  unpack_no (fun y hy => by
    have h1 := pEvent_back strict y hy.1
    rw [hy.2.1, h] at h1
    simp only [Option.some.injEq, Prod.mk.injEq, and_true] at h1
    subst h1
    exact hn hy)
end Go.Proofs.YtnaecdoeldoipaaGreatDoor
