/-
  The laws' marks at an Event by value, as the general walk wants them; how much EventUnpack's answer counts.
-/
import Derived.Test.YtbjblchhenmgjaaNEvent
import Derived.Test.YtbjblchhenmgjaaUnp
set_option linter.unusedVariables false
set_option linter.unusedSimpArgs false
namespace Go.Proofs.Ytbjblchhenmgjaa
open Go.ChangeShapes Go.WideShapes Go.ChangeAt Go.RowKit

def Event.mkTop (x : Event) (a b : Nat) : Prop := x.body.mkTop a b
def Event.cntTop (x : Event) : Nat := x.body.cntTop
theorem Event.cntTop_eq (x : Event) : x.cntTop = x.body.cntTop := rfl
set_option maxRecDepth 100000 in
theorem markEvent_any (x : Event) (us : List Value) (fp : List Nat) (lo : Nat) (z : Int) (k0 : Nat) (w : World) (hz : z = k0) (ho : OwC w x.cells us fp) (hn : New w fp lo) (hb : k0 + x.cntTop ≤ 1099511627776) :
    Calls Try.prog 21 #[.agg us.toArray, .int .i64 z] w fun e w' => ∃ (x' : Event), e = .returned (.int .i64 ((k0 + x.cntTop : Nat) : Int)) ∧ OwC w' x'.cells us fp ∧ x'.mkTop k0 (k0 + x.cntTop) ∧ Touch fp w w' := by
  subst hz
  have hc := x.cntTop_eq
  have ho' := ho
  obtain ⟨A1, c1, A2, c2, f1, f2, rfl, w0, w1, w2, w3, w4, o1, o2, rfl⟩ := ho.oEvent
  have hw1 : Below w.heap.size w (w.alloc (.cells #[.string x.type_, .int .i64 x.version, .int .i64 x.body.sort, .int .i64 x.body.num, .string x.body.text, .slice A1 x.body.names.length c1, .slice A2 x.body.kids.length c2] 28)) := (Below.refl _ _).alloc (Nat.le_refl _) _
  have HO := hide (ho'.oBody.below hw1 hn.lt)
  have HN := hide (hn.below hw1 hn.lt)
  have T0 := hide (Touch.below (fp := f1 ++ f2) hw1)
  rw [hc] at hb
  clear ho ho' o1 o2 hw1 hc
  go_enter Try.func21, Try.ntmps21
  go_wp2_with fail
  refine (markTree_any x.body _ _ lo _ k0 _ rfl HO.out HN.out hb).mono ?_
  rintro e w' ⟨y, rfl, yo, ym, ht⟩
  have HT := hide (T0.out.trans ht)
  have HYO := hide yo
  have HYM := hide ym
  clear yo ym ht
  go_wp2
  go_ret
  refine ⟨⟨x.type_, x.version, y⟩, rfl, ?_, HYM.out, HT.out⟩
  obtain ⟨B1, d1, B2, d2, g1, g2, e1, v0, v1, v2, q1, q2, e2⟩ := HYO.out.oTree
  simp only [List.cons.injEq, and_true] at e1
  obtain ⟨e3, e4, e5, e6, e7⟩ := e1
  rw [e3, e4, e5, e6, e7, e2]
  exact OwC.mEvent (x := ⟨x.type_, x.version, y⟩) w0 w1 v0 v1 v2 q1 q2
set_option maxRecDepth 100000 in
theorem heldEvent_any (x : Event) (us : List Value) (fp : List Nat) (z : Int) (a b : Nat) (w : World) (hz : z = a) (ho : OwC w x.cells us fp) (hf : Lt fp w.heap.size) (hmk : x.mkTop a b) (hb : b ≤ 1099511627776) :
    Calls Try.prog 22 #[.agg us.toArray, .int .i64 z] w fun e w' => e = .returned (.int .i64 (b : Nat)) ∧ Below w.heap.size w w' := by
  subst hz
  have ho' := ho
  obtain ⟨A1, c1, A2, c2, f1, f2, rfl, w0, w1, w2, w3, w4, o1, o2, rfl⟩ := ho.oEvent
  have hw1 : Below w.heap.size w (w.alloc (.cells #[.string x.type_, .int .i64 x.version, .int .i64 x.body.sort, .int .i64 x.body.num, .string x.body.text, .slice A1 x.body.names.length c1, .slice A2 x.body.kids.length c2] 28)) := (Below.refl _ _).alloc (Nat.le_refl _) _
  have HO := hide (ho'.oBody.below hw1 hf)
  have HF := hide (hf.up hw1)
  have HB := hide hw1
  have HM := hide hmk
  clear ho ho' o1 o2 hw1 hf hmk
  go_enter Try.func22, Try.ntmps22
  go_wp2_with fail
  refine (heldTree_any x.body _ _ _ a b _ rfl HO.out HF.out HM.out hb).mono ?_
  rintro e w' ⟨rfl, hb'⟩
  have HB' := hide (HB.out.trans (hb'.mono HB.out.size))
  clear hb'
  go_wp2
  go_ret
  exact ⟨rfl, HB'.out⟩
theorem unpackE_bulk (l : List UInt8) : (unpackE l).bulk ≤ l.length := by
  by_cases h : ∃ x, Event.from l x
  · obtain ⟨x, hx⟩ := h
    rw [(unpack_yes hx).1]
    have h1 := pEvent_back true x hx.1
    rw [hx.2.1] at h1
    exact pEvent_bulk h1
  · rw [(unpack_no (fun x hx => h ⟨x, hx⟩)).1]
    exact Nat.zero_le _
theorem unpackE_cnt (l : List UInt8) : (unpackE l).cntTop ≤ 3 + 3 * l.length := by
  have h1 := unpackE_bulk l
  have h2 := (unpackE l).body.cntTop_le
  have h3 : (unpackE l).bulk = (unpackE l).type_.size + (unpackE l).body.bulk := rfl
  rw [Event.cntTop_eq]
  omega
end Go.Proofs.Ytbjblchhenmgjaa
