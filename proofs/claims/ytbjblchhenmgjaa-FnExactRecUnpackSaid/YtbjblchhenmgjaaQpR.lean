/-
  Record: what the laws' own helpers do: the size, a copy, equality.
-/
import Derived.Test.YtbjblchhenmgjaaQpH
import Derived.Test.YtbjblchhenmgjaaQpG
set_option linter.unusedVariables false
set_option linter.unusedSimpArgs false
namespace Go.Proofs.Ytbjblchhenmgjaa
open Go.ChangeShapes Go.WideShapes Go.ChangeAt Go.RowKit



def EqRecord (x : Record) : Prop := ∀ (us vs : List Value) (fp fq : List Nat) (w : World), OwC w x.cells us fp → OwC w x.cells vs fq → Lt fp w.heap.size → Lt fq w.heap.size →
  Calls Try.prog 25 #[.agg us.toArray, .agg vs.toArray] w fun e w' => e = .returned (.bool true) ∧ Below w.heap.size w w'
set_option maxRecDepth 100000 in
theorem eqRecord_of (x : Record) : EqRecord x := by
  intro us vs fp fq w ho ho' hf hf'
  obtain ⟨A1, c1, f1, rfl, w0, w1, o1, rfl⟩ := ho.oRecord
  obtain ⟨bA1, bc1, bf1, rfl, bw0, bw1, bo1, rfl⟩ := ho'.oRecord
  have l1 := hf
  have k1 := hf'
  have hB0 : Below w.heap.size w ((w.alloc (.cells #[.int .i64 x.pos, .string x.key, .slice A1 x.events.length c1] 39)).alloc (.cells #[.int .i64 x.pos, .string x.key, .slice bA1 x.events.length bc1] 39)) := ((Below.refl _ _).alloc (Nat.le_refl _) _).alloc (by simp) _
  have R0 : Row ((w.alloc (.cells #[.int .i64 x.pos, .string x.key, .slice A1 x.events.length c1] 39)).alloc (.cells #[.int .i64 x.pos, .string x.key, .slice bA1 x.events.length bc1] 39)) w.heap.size 39 [.int .i64 x.pos, .string x.key, .slice A1 x.events.length c1] := (Row.new w _ _).alloc _
  have S0 : Row ((w.alloc (.cells #[.int .i64 x.pos, .string x.key, .slice A1 x.events.length c1] 39)).alloc (.cells #[.int .i64 x.pos, .string x.key, .slice bA1 x.events.length bc1] 39)) (w.heap.size + 1) 39 [.int .i64 x.pos, .string x.key, .slice bA1 x.events.length bc1] := by
    have h := Row.new (w.alloc (.cells #[.int .i64 x.pos, .string x.key, .slice A1 x.events.length c1] 39)) 39 [.int .i64 x.pos, .string x.key, .slice bA1 x.events.length bc1]
    simpa using h
  clear ho ho'
  go_enter Try.func25, Try.ntmps25
  go_wp2_with fail
  refine (eqEventS_any _ _ _ _ _ _ _ _ _ _ (o1.below hB0 l1) (bo1.below hB0 k1) (l1.up hB0) (k1.up hB0)).mono ?_
  rintro e w1_ ⟨rfl, hb1⟩
  have hB1 := hB0.trans (hb1.mono hB0.size)
  have R1 := R0.below hb1 R0.lt
  have S1 := S0.below hb1 S0.lt
  go_wp2
  go_ret
  exact ⟨rfl, hB1⟩
theorem eqRecord_any (x : Record) : EqRecord x := eqRecord_of x

end Go.Proofs.Ytbjblchhenmgjaa
