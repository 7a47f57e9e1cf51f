/-
  Whether some event of a list is not ok: the closure of recordOk, IndexFunc and ContainsFunc on it.
-/
import Derived.Test.YtfllacpmbcamkaaRec
set_option linter.unusedVariables false
set_option linter.unusedSimpArgs false
namespace Go.Proofs.Ytfllacpmbcamkaa
open Go.ChangeShapes Go.WideShapes Go.ChangeAt Go.RowKit

set_option maxRecDepth 100000 in
theorem recClosure_any (x : Event) (us : List Value) (fp : List Nat) (w : World) (ho : OwC w x.cells us fp) (hf : Lt fp w.heap.size) (hbk : x.bulk ≤ 1048576) :
    Calls Try.prog 116 #[.agg us.toArray] w fun e w' => e = .returned (.bool (!tb x.ok)) ∧ Below w.heap.size w w' := by
  have HO := hide ho
  obtain ⟨A1, c1, A2, c2, f1, f2, rfl, w0, w1, w2, w3, w4, o1, o2, rfl⟩ := ho.oEvent
  have hw1 := hide (show Below w.heap.size w (w.alloc (.cells #[.string x.type_, .int .i64 x.version, .int .i64 x.body.sort, .int .i64 x.body.num, .string x.body.text, .slice A1 x.body.names.length c1, .slice A2 x.body.kids.length c2] 44)) from (Below.refl _ _).alloc (Nat.le_refl _) _)
  clear ho o1 o2
  go_enter Try.func116, Try.ntmps116
  go_wp2_with fail
  refine (implEventOk_any x _ _ _ (HO.out.below hw1.out hf) (hf.up hw1.out) hbk).mono ?_
  rintro e w2 ⟨rfl, hb2⟩
  go_wp2
  go_ret
  exact ⟨rfl, hw1.out.trans (hb2.mono hw1.out.size)⟩

set_option maxRecDepth 100000 in
theorem recIndex_any (l : List Event) (A : Option Addr) (n c : Nat) (fp : List Nat) (w : World) (h : Ow w (.s 7 l.length (l.flatMap Event.cells)) (.slice A n c) fp) (hf : Lt fp w.heap.size) (hbk : Event.bulkS l ≤ 1048576) :
    Calls Try.prog 131 #[.slice A n c, .func (.func 116) #[] #[]] w fun e w' => ∃ k : Int, e = .returned (.int .i64 k) ∧ (0 ≤ k ↔ ¬ ∀ i (h : i < l.length), l[i].ok) ∧ Below w.heap.size w w' := by
  obtain ⟨rfl, hc, hm⟩ := h.nlen
  unfold maxLen at hm
  have H := hide h
  clear h
  go_enter Try.func131, Try.ntmps131
  go_wp2
  go_loopw [8] (fun i wr => (∃ j : Nat, j ≤ l.length ∧ i = .int .i64 j ∧ ∀ a (h : a < l.length), a < j → l[a].ok) ∧ Below w.heap.size w wr) (fun i _ => l.length - (intOf i).toNat)
  case atStart => exact ⟨⟨0, Nat.zero_le _, rfl, fun a h1 h => absurd h (by omega)⟩, Below.refl _ _⟩
  case round =>
    obtain ⟨⟨j, hj, rfl, ha⟩, hbw⟩ := hrel
    have HA := hide ha
    have HB := hide hbw
    clear ha hbw
    by_cases hlt : j < l.length
    · obtain ⟨g, off, ws, fi, rfl, hgm, hfi, hwl, hcs, hov⟩ := (H.out.below HB.out hf).elem Event.cells_len hlt
      have HOT := hide hov
      have HFT := hide ((hf.up HB.out).sub hfi)
      have hbx : l[j].bulk ≤ 1048576 := by have := Event.bulk_at l j hlt; omega
      have hst := hide (fun (hx : l[j].ok) (a : Nat) (h : a < l.length) (hl : a < j + 1) => show l[a].ok from by
        by_cases e : a < j
        · exact HA.out a h e
        · obtain rfl : a = j := by omega
          exact hx)
      have hno := hide (fun (hx : ¬ l[j].ok) => show ¬ ∀ i (h : i < l.length), l[i].ok from fun hh => hx (hh j hlt))
      obtain ⟨D1, d1, D2, d2, r1, r2, rfl, y0, y1, y2, y3, y4, z1, z2, rfl⟩ := hov.oEvent
      have p0 := hcs 0 _ rfl
      have p1 := hcs 1 _ rfl
      have p2 := hcs 2 _ rfl
      have p3 := hcs 3 _ rfl
      have p4 := hcs 4 _ rfl
      have p5 := hcs 5 _ rfl
      have p6 := hcs 6 _ rfl
      simp only [Nat.add_zero] at p0
      clear hcs hov z1 z2 hfi
      generalize l[j] = x at *
      go_wp2_with fail
      refine (recClosure_any x _ _ _ HOT.out HFT.out hbx).mono ?_
      rintro e w2 ⟨rfl, hb2⟩
      have HB2 := hide (HB.out.trans (hb2.mono HB.out.size))
      clear hb2
      by_cases hx : x.ok
      · rw [tb_true hx]
        have HX := hide (hst.out hx)
        clear hx
        go_wp2
        go_roundw
        case rel => exact ⟨⟨j + 1, by omega, by go_num, HX.out⟩, HB2.out⟩
        case measure => simp [intOf]; omega
      · rw [tb_false hx]
        have HX := hide (hno.out hx)
        clear hx
        go_wp2
        go_ret
        exact ⟨j, rfl, ⟨fun _ => HX.out, fun _ => by omega⟩, HB2.out⟩
    · obtain rfl : j = l.length := by omega
      have HX := hide (show ∀ i (h : i < l.length), l[i].ok from fun i h => HA.out i h h)
      go_wp2
      go_ret
      exact ⟨-1, rfl, ⟨fun h => absurd h (by omega), fun h => absurd HX.out h⟩, HB.out⟩

set_option maxRecDepth 100000 in
theorem recContains_any (l : List Event) (A : Option Addr) (n c : Nat) (fp : List Nat) (w : World) (h : Ow w (.s 7 l.length (l.flatMap Event.cells)) (.slice A n c) fp) (hf : Lt fp w.heap.size) (hbk : Event.bulkS l ≤ 1048576) :
    Calls Try.prog 115 #[.slice A n c, .func (.func 116) #[] #[]] w fun e w' => e = .returned (.bool (tb (¬ ∀ i (h : i < l.length), l[i].ok))) ∧ Below w.heap.size w w' := by
  have H := hide h
  clear h
  go_enter Try.func115, Try.ntmps115
  go_wp2_with fail
  refine (recIndex_any l _ _ _ _ _ H.out hf hbk).mono ?_
  rintro e w2 ⟨k, rfl, hk, hb⟩
  by_cases h0 : 0 ≤ k
  · have HT := hide (tb_true (hk.1 h0))
    go_wp2
    go_ret
    exact ⟨ret_bool (by rw [HT.out]; simpa using h0), hb⟩
  · have HT := hide (tb_false (fun h => h0 (hk.2 h)))
    go_wp2
    go_ret
    exact ⟨ret_bool (by rw [HT.out]; simpa using h0), hb⟩
end Go.Proofs.Ytfllacpmbcamkaa
