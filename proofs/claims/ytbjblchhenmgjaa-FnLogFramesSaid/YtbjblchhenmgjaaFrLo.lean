/-
  FnLogFrames: its draw, and the comparing of records.
-/
import Derived.Test.YtbjblchhenmgjaaFrLaw
set_option linter.unusedVariables false
set_option linter.unusedSimpArgs false
namespace Go.Proofs.Ytbjblchhenmgjaa
open Go.ChangeShapes Go.WideShapes Go.ChangeAt Go.RowKit

def DrawOutL (w : World) (e : Ending) (w' : World) : Prop :=
  ∃ (v : Value) (l : List LogRecord) (fq : List Nat), e = .returned (.tuple #[v, .string (catF l)]) ∧ Ow w' (.s 2 l.length (l.flatMap LogRecord.cells)) v fq ∧ New w' fq w.heap.size ∧ (∀ x ∈ l, x.ok) ∧ l.length ≤ 5 ∧ Below w.heap.size w w'
set_option maxRecDepth 100000 in
theorem drawLogRecords_any (b : List UInt8) (A : Option Addr) (n c : Nat) (fp : List Nat) (w : World) (ho : Ow w (.s 1 b.length (b.flatMap byteC)) (.slice A n c) fp) (hf : Lt fp w.heap.size) (hsz : b.length ≤ 1048576) :
    Calls Try.prog 33 #[.slice A n c] w (DrawOutL w) := by
  have HO := hide (open_any b A n c fp w ho hf hsz)
  clear ho
  go_enter Try.func33, Try.ntmps33
  go_wp2_with fail
  refine HO.out.mono ?_
  rintro e w2 ⟨L, rfl, hr, hb2⟩
  have HF := hide (l45Frames_any hr (by omega))
  have HB2 := hide hb2
  have hlr := hr.lt
  clear hr hb2 HO
  go_wp2_with fail
  refine HF.out.mono ?_
  rintro e w3 ⟨v, l, fq, rfl, ho3, hn3, hok, hl5, hg3⟩
  have HO3 := hide ho3
  have HN3 := hide (hn3.mono HB2.out.size)
  have HOK := hide hok
  have HB3 := hide (HB2.out.trans (below_of_grown hg3 (Nat.le_refl _) HB2.out.size))
  clear ho3 hn3 hok hg3 HF
  go_wp2
  go_ret2
  exact ⟨v, l, fq, rfl, HO3.out, HN3.out, HOK.out, hl5, HB3.out⟩
set_option maxRecDepth 100000 in
set_option maxHeartbeats 1000000 in
theorem loRecords_same (l : List LogRecord) (A B : Option Addr) (n m c d : Nat) (fp fq : List Nat) (w : World) (ha : Ow w (.s 2 l.length (l.flatMap LogRecord.cells)) (.slice A n c) fp) (hb : Ow w (.s 2 l.length (l.flatMap LogRecord.cells)) (.slice B m d) fq) (hfa : Lt fp w.heap.size) (hfb : Lt fq w.heap.size) :
    Calls Try.prog 36 #[.slice A n c, .slice B m d] w fun e w' => e = .returned (.bool true) ∧ Below w.heap.size w w' := by
  obtain ⟨rfl, hnc, hcm⟩ := ha.nlen
  obtain ⟨rfl, hmd, hdm⟩ := hb.nlen
  have HA := hide ha
  have HB := hide hb
  have hlm : l.length ≤ 9223372036854775807 := by unfold maxLen at hcm; omega
  clear ha hb
  go_enter Try.func36, Try.ntmps36
  go_wp2
  go_loopw [5] (fun iv wr => (∃ i : Nat, i ≤ l.length ∧ iv = .int .i64 (i : Int)) ∧ Below w.heap.size w wr) (fun iv _ => l.length - (intOf iv).toNat)
  case atStart => exact ⟨⟨0, Nat.zero_le _, rfl⟩, Below.refl _ _⟩
  case round =>
    obtain ⟨⟨i, hi, rfl⟩, hbw⟩ := hrel
    have HBW := hide hbw
    by_cases hlt : i < l.length
    · obtain ⟨ga, oa, usa, fa, rfl, hga, -, hla, hca, hoa⟩ := (HA.out.below hbw hfa).elem LogRecord.cells_len hlt
      obtain ⟨gb, ob, usb, fb, rfl, hgb, -, hlb, hcb, hob⟩ := (HB.out.below hbw hfb).elem LogRecord.cells_len hlt
      obtain ⟨rfl, -, -, -⟩ := hoa.oLogRecord
      obtain ⟨rfl, -, -, -⟩ := hob.oLogRecord
      have a0 := hca 0 _ rfl
      have a1 := hca 1 _ rfl
      have b0 := hcb 0 _ rfl
      have b1 := hcb 1 _ rfl
      have la := Nat.lt_of_lt_of_le (hfa _ hga) hbw.size
      have lb := Nat.lt_of_lt_of_le (hfb _ hgb) hbw.size
      simp only [Nat.add_zero] at a0 b0
      have hltI : (i : Int) < (l.length : Int) := by omega
      generalize l[i] = x at *
      clear hca hcb hoa hob hbw
      go_wp2
      go_quiet (fail)
      go_wp2
      go_roundw
      case rel => exact ⟨⟨i + 1, by omega, by go_num⟩, below_drewN HBW.out _⟩
      case measure => simp [intOf]; omega
    · obtain rfl : i = l.length := by omega
      go_wp2
      go_ret
      exact ⟨rfl, HBW.out⟩
end Go.Proofs.Ytbjblchhenmgjaa
