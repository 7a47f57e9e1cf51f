/-
  The laws' marks at an Event by value.
-/
import Derived.Test.YtbjblchhenmgjaaNTree
import Derived.Test.YtbjblchhenmgjaaEventOk
set_option linter.unusedVariables false
set_option linter.unusedSimpArgs false
namespace Go.Proofs.Ytbjblchhenmgjaa
open Go.ChangeShapes Go.WideShapes Go.ChangeAt Go.RowKit

theorem Tree.cnt_le : ∀ (t : Tree), t.cnt ≤ 3 + 3 * t.bulk := by
  intro t
  refine Tree.ind (P := fun t => t.cnt ≤ 3 + 3 * t.bulk) (fun t ih => ?_) t
  have hs : ∀ (l : List Tree), (∀ x ∈ l, x.cnt ≤ 3 + 3 * x.bulk) → Tree.cntS l ≤ 3 * l.length + 3 * Tree.bulkS l := by
    intro l
    induction l with
    | nil => intro _; simp [Tree.cntS]
    | cons x r ih2 =>
      intro h
      have h1 := h x (by simp)
      have h2 := ih2 (fun y hy => h y (by simp [hy]))
      simp only [Tree.cntS, Tree.bulkS, List.length_cons]
      omega
  have h1 := hs t.kids ih
  have h2 := t.cnt_eq
  have h3 := t.bulk_eq
  unfold bulkStrs at h3
  omega
theorem Tree.cntTop_le (t : Tree) : t.cntTop ≤ 3 + 3 * t.bulk := by
  have h1 := t.cnt_le
  have h2 := t.cnt_eq
  have h3 := t.cntTop_eq
  omega
set_option maxRecDepth 100000 in
theorem markEvent_touch (x : Event) (us : List Value) (fp : List Nat) (lo : Nat) (z : Int) (k0 : Nat) (w : World) (hz : z = k0) (ho : OwC w x.cells us fp) (hn : New w fp lo) (hb : k0 + x.body.cntTop ≤ 1099511627776) :
    Calls Try.prog 21 #[.agg us.toArray, .int .i64 z] w fun e w' => e = .returned (.int .i64 ((k0 + x.body.cntTop : Nat) : Int)) ∧ Touch fp w w' := by
  subst hz
  have ho' := ho
  obtain ⟨A1, c1, A2, c2, f1, f2, rfl, w0, w1, w2, w3, w4, o1, o2, rfl⟩ := ho.oEvent
  have hw1 : Below w.heap.size w (w.alloc (.cells #[.string x.type_, .int .i64 x.version, .int .i64 x.body.sort, .int .i64 x.body.num, .string x.body.text, .slice A1 x.body.names.length c1, .slice A2 x.body.kids.length c2] 28)) := (Below.refl _ _).alloc (Nat.le_refl _) _
  have HO := hide (ho'.oBody.below hw1 hn.lt)
  have HN := hide (hn.below hw1 hn.lt)
  have T0 := hide (Touch.below (fp := f1 ++ f2) hw1)
  clear ho ho' o1 o2 hw1
  go_enter Try.func21, Try.ntmps21
  go_wp2_with fail
  refine (markTree_any x.body _ _ lo _ k0 _ rfl HO.out HN.out hb).mono ?_
  rintro e w' ⟨y, rfl, _, _, ht⟩
  have HT := hide (T0.out.trans ht)
  go_wp2
  go_ret
  exact ⟨rfl, HT.out⟩
end Go.Proofs.Ytbjblchhenmgjaa
