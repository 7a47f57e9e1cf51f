/-
  LogRecord: what the laws' own helpers do: the size, a copy, equality.
-/
import Derived.Test.YtfllacpmbcamkaaDLogRecord
set_option linter.unusedVariables false
set_option linter.unusedSimpArgs false
namespace Go.Proofs.Ytfllacpmbcamkaa
open Go.ChangeShapes Go.WideShapes Go.ChangeAt Go.RowKit



def EqLogRecord (x : LogRecord) : Prop := ∀ (us vs : List Value) (fp fq : List Nat) (w : World), OwC w x.cells us fp → OwC w x.cells vs fq → Lt fp w.heap.size → Lt fq w.heap.size →
  Calls Try.prog 92 #[.agg us.toArray, .agg vs.toArray] w fun e w' => e = .returned (.bool true) ∧ Below w.heap.size w w'
set_option maxRecDepth 100000 in
theorem eqLogRecord_of (x : LogRecord) : EqLogRecord x := by
  intro us vs fp fq w ho ho' hf hf'
  obtain ⟨rfl, w0, w1, rfl⟩ := ho.oLogRecord
  obtain ⟨rfl, bw0, bw1, rfl⟩ := ho'.oLogRecord
  have hB0 : Below w.heap.size w ((w.alloc (.cells #[.int .i64 x.pos, .string x.data] 88)).alloc (.cells #[.int .i64 x.pos, .string x.data] 88)) := ((Below.refl _ _).alloc (Nat.le_refl _) _).alloc (by simp) _
  have R0 : Row ((w.alloc (.cells #[.int .i64 x.pos, .string x.data] 88)).alloc (.cells #[.int .i64 x.pos, .string x.data] 88)) w.heap.size 88 [.int .i64 x.pos, .string x.data] := (Row.new w _ _).alloc _
  have S0 : Row ((w.alloc (.cells #[.int .i64 x.pos, .string x.data] 88)).alloc (.cells #[.int .i64 x.pos, .string x.data] 88)) (w.heap.size + 1) 88 [.int .i64 x.pos, .string x.data] := by
    have h := Row.new (w.alloc (.cells #[.int .i64 x.pos, .string x.data] 88)) 88 [.int .i64 x.pos, .string x.data]
    simpa using h
  clear ho ho'
  go_enter Try.func92, Try.ntmps92
  go_wp2
  go_ret
  exact ⟨rfl, hB0⟩
theorem eqLogRecord_any (x : LogRecord) : EqLogRecord x := eqLogRecord_of x
def EqLogRecordS (l : List LogRecord) : Prop := ∀ (A A' : Option Addr) (n n' c c' : Nat) (fp fq : List Nat) (w : World), Ow w (.s 2 l.length (l.flatMap LogRecord.cells)) (.slice A n c) fp → Ow w (.s 2 l.length (l.flatMap LogRecord.cells)) (.slice A' n' c') fq → Lt fp w.heap.size → Lt fq w.heap.size →
  Calls Try.prog 42 #[.slice A n c, .slice A' n' c'] w fun e w' => e = .returned (.bool true) ∧ Below w.heap.size w w'
set_option maxRecDepth 100000 in
theorem eqLogRecordS_of (l : List LogRecord) (ih : ∀ x ∈ l, EqLogRecord x) : EqLogRecordS l := by
  intro A A' n n' c c' fp fq w h h' hf hf'
  obtain ⟨rfl, hc, hm⟩ := h.nlen
  obtain ⟨rfl, hc', hm'⟩ := h'.nlen
  unfold maxLen at hm hm'
  go_enter Try.func42, Try.ntmps42
  go_wp2
  go_loopw [5] (fun i wr => (∃ k : Nat, k ≤ l.length ∧ i = .int .i64 k) ∧ Below w.heap.size w wr) (fun i _ => l.length - (intOf i).toNat)
  case atStart => exact ⟨⟨0, Nat.zero_le _, rfl⟩, Below.refl _ _⟩
  case round =>
    obtain ⟨⟨k, hk, rfl⟩, hb⟩ := hrel
    by_cases hlt : k < l.length
    · obtain ⟨g, off, vs, fi, rfl, hg, hfi, hvl, hcs, hov⟩ := (h.below hb hf).elem LogRecord.cells_len hlt
      obtain ⟨g', off', vs', fi', rfl, hg', hfi', hvl', hcs', hov'⟩ := (h'.below hb hf').elem LogRecord.cells_len hlt
      have HO := hide hov
      have HO' := hide hov'
      obtain ⟨rfl, w0, w1, rfl⟩ := hov.oLogRecord
      obtain ⟨rfl, bw0, bw1, rfl⟩ := hov'.oLogRecord
      have p0 := hcs 0 _ rfl
      have q0 := hcs' 0 _ rfl
      have p1 := hcs 1 _ rfl
      have q1 := hcs' 1 _ rfl
      simp only [Nat.add_zero] at p0 q0
      have HC := hide (ih _ (List.getElem_mem hlt))
      clear hcs hcs' hov hov'
      generalize l[k] = x at *
      go_wp2_with fail
      go_still_tail 8, (by kernel_rfl)
      change wpList _ _ _ _ _ wr.drew
      go_wp2_with fail
      refine (HC.out _ _ _ _ _ (HO.out.drewN 1) (HO'.out.drewN 1) (hf.sub hfi |>.mono hb.size) (hf'.sub hfi' |>.mono hb.size)).mono ?_
      rintro e w1 ⟨rfl, hb1⟩
      go_wp2
      go_roundw
      case rel => exact ⟨⟨k + 1, by omega, by go_num⟩, (below_drewN hb 1).trans (hb1.mono hb.size)⟩
      case measure => simp [intOf]; omega
    · obtain rfl : k = l.length := by omega
      go_wp2
      go_ret
      exact ⟨rfl, hb⟩

theorem eqLogRecordS_any (l : List LogRecord) : EqLogRecordS l := eqLogRecordS_of l fun x _ => eqLogRecord_any x

end Go.Proofs.Ytfllacpmbcamkaa
