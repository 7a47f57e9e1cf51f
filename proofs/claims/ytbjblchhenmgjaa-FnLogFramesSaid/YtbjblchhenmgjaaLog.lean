/-
  Records' bytes: the program's LogFrame and the reference's answer alike.
-/
import Derived.Test.YtbjblchhenmgjaaHLogRecord
import Derived.Test.YtbjblchhenmgjaaName
set_option linter.unusedVariables false
set_option linter.unusedSimpArgs false
namespace Go.Proofs.Ytbjblchhenmgjaa
open Go.ChangeShapes Go.WideShapes Go.ChangeAt Go.RowKit

/-- a literal of five bytes as a text -/
theorem size5 (a b c d f : Int) : (strOfNums [a, b, c, d, f]).size = 5 := rfl
theorem run_conv5 {P : Program} (src dst e : TypeId) (hs : P.underlying src = some (.slice e)) (he : P.underlying e = some (.int .u8)) (hd : P.underlying dst = some .string)
    (w : World) (a b c d f : Int) (g : Nat) (hg : g = w.heap.size) (n : Nat) :
    (convert src dst (.slice (some ⟨g, 0, none⟩) 5 n)).run P (w.alloc (.cells #[.int .u8 a, .int .u8 b, .int .u8 c, .int .u8 d, .int .u8 f] e)) =
      .ok (.string (strOfNums [a, b, c, d, f])) (w.alloc (.cells #[.int .u8 a, .int .u8 b, .int .u8 c, .int .u8 d, .int .u8 f] e)) := by
  subst hg
  refine run_convert_bytes_arg _ src e hs he _ 0 5 n [a, b, c, d, f] rfl (fun i hi => ?_) dst hd
  rw [World.cell?_alloc_new]
  match i, hi with
  | 0, _ => rfl
  | 1, _ => rfl
  | 2, _ => rfl
  | 3, _ => rfl
  | 4, _ => rfl

def LogRecord.ok (r : LogRecord) : Prop := 1 ≤ r.pos ∧ r.pos ≤ 999999 ∧ r.data.size ≤ 2000
def LogRecord.bytes (r : LogRecord) : ByteArray := strOfNums [(r.data.size : Int) / 256, (r.data.size : Int) % 256, r.pos / 65536, r.pos / 256 % 256, r.pos % 256] ++ r.data
noncomputable def LogRecord.frame (r : LogRecord) : ByteArray := if tb r.ok = true then r.bytes else .empty

set_option maxRecDepth 100000 in
theorem implFrameOk_any (p : Int) (d : ByteArray) (w : World) (hs : d.size ≤ maxLen) :
    Calls Try.prog 105 #[.agg #[.int .i64 p, .string d]] w fun e w' => e = .returned (.bool (tb (LogRecord.mk p d).ok)) ∧ Below w.heap.size w w' := by
  unfold maxLen at hs
  by_cases hp : 1 ≤ p ∧ p ≤ 999999
  · by_cases hd : (d.size : Int) ≤ 2000
    · have HT := hide (tb_true (p := (LogRecord.mk p d).ok) ⟨hp.1, hp.2, by show d.size ≤ 2000; omega⟩)
      go_enter Try.func105, Try.ntmps105
      go_wp2_with fail
      refine (inRange_any _ _ _ _).mono ?_
      rintro e w' ⟨rfl, rfl⟩
      rw [tb_true hp]
      go_wp2
      go_ret
      exact ⟨ret_bool HT.out.symm, (Below.refl _ _).alloc (Nat.le_refl _) _⟩
    · have HT := hide (tb_false (p := (LogRecord.mk p d).ok) (fun h => hd (by have := h.2.2; change d.size ≤ 2000 at this; omega)))
      go_enter Try.func105, Try.ntmps105
      go_wp2_with fail
      refine (inRange_any _ _ _ _).mono ?_
      rintro e w' ⟨rfl, rfl⟩
      rw [tb_true hp]
      go_wp2
      go_ret
      exact ⟨ret_bool (by rw [HT.out]; simp; omega), (Below.refl _ _).alloc (Nat.le_refl _) _⟩
  · have HT := hide (tb_false (p := (LogRecord.mk p d).ok) (fun h => hp ⟨h.1, h.2.1⟩))
    go_enter Try.func105, Try.ntmps105
    go_wp2_with fail
    refine (inRange_any _ _ _ _).mono ?_
    rintro e w' ⟨rfl, rfl⟩
    rw [tb_false hp]
    go_wp2
    go_ret
    exact ⟨ret_bool HT.out.symm, (Below.refl _ _).alloc (Nat.le_refl _) _⟩

set_option maxRecDepth 100000 in
theorem implFrame_any (p : Int) (d : ByteArray) (w : World) (h : (LogRecord.mk p d).ok) :
    Calls Try.prog 106 #[.agg #[.int .i64 p, .string d]] w fun e w' => e = .returned (.string (LogRecord.mk p d).bytes) ∧ Below w.heap.size w w' := by
  obtain ⟨h1, h2, h3⟩ := h
  change 1 ≤ p at h1
  change p ≤ 999999 at h2
  change d.size ≤ 2000 at h3
  have hcv := fun (u : World) => run_conv5 (P := Try.prog) 22 9 5 Try.underlying22 Try.underlying5 Try.underlying9 u
  have hsz := size5
  go_enter Try.func106, Try.ntmps106
  go_wp2
  go_ret
  exact ⟨rfl, ((Below.refl _ _).alloc (Nat.le_refl _) _).alloc (by simp) _⟩

set_option maxRecDepth 100000 in
theorem implLogFrame_any (p : Int) (d : ByteArray) (w : World) (hs : d.size ≤ maxLen) :
    Calls Try.prog 34 #[.agg #[.int .i64 p, .string d]] w fun e w' => e = .returned (.string (LogRecord.mk p d).frame) ∧ Below w.heap.size w w' := by
  have hw0 : Below w.heap.size w (w.alloc (.cells #[.int .i64 p, .string d] 59)) := (Below.refl _ _).alloc (Nat.le_refl _) _
  have R0 : Row (w.alloc (.cells #[.int .i64 p, .string d] 59)) w.heap.size 59 [.int .i64 p, .string d] := Row.new w _ _
  go_enter Try.func34, Try.ntmps34
  go_wp2_with fail
  refine (implFrameOk_any _ _ _ hs).mono ?_
  rintro e w1 ⟨rfl, hb1⟩
  have hB1 := hw0.trans (hb1.mono hw0.size)
  have R1 := R0.below hb1 R0.lt
  have c0 := R1.cell 0
  have c1 := R1.cell 1
  have z1 : w.heap.size < w1.heap.size := R1.lt
  by_cases h : (LogRecord.mk p d).ok
  · rw [tb_true h]
    have HT := hide (show (LogRecord.mk p d).frame = (LogRecord.mk p d).bytes by unfold LogRecord.frame; rw [tb_true h, if_pos rfl])
    go_wp2_with fail
    refine (implFrame_any _ _ _ h).mono ?_
    rintro e w2 ⟨rfl, hb2⟩
    go_wp2
    go_ret
    exact ⟨ret_str HT.out.symm, hB1.trans (hb2.mono hB1.size)⟩
  · rw [tb_false h]
    have HT := hide (show (LogRecord.mk p d).frame = .empty by unfold LogRecord.frame; rw [tb_false h]; rfl)
    go_wp2
    go_ret
    exact ⟨ret_str HT.out.symm, hB1⟩

set_option maxRecDepth 100000 in
theorem specRecordOk_any (p : Int) (d : ByteArray) (w : World) (hs : d.size ≤ maxLen) :
    Calls Try.prog 225 #[.agg #[.int .i64 p, .string d]] w fun e w' => e = .returned (.bool (tb (LogRecord.mk p d).ok)) ∧ Below w.heap.size w w' := by
  unfold maxLen at hs
  by_cases hp : 1 ≤ p ∧ p ≤ 999999
  · by_cases hd : (d.size : Int) ≤ 2000
    · have HT := hide (tb_true (p := (LogRecord.mk p d).ok) ⟨hp.1, hp.2, by show d.size ≤ 2000; omega⟩)
      go_enter Try.func225, Try.ntmps225
      go_wp2_with fail
      refine (l6In_any _ _ _ _).mono ?_
      rintro e w' ⟨rfl, rfl⟩
      rw [tb_true hp]
      go_wp2
      go_ret
      exact ⟨ret_bool HT.out.symm, (Below.refl _ _).alloc (Nat.le_refl _) _⟩
    · have HT := hide (tb_false (p := (LogRecord.mk p d).ok) (fun h => hd (by have := h.2.2; change d.size ≤ 2000 at this; omega)))
      go_enter Try.func225, Try.ntmps225
      go_wp2_with fail
      refine (l6In_any _ _ _ _).mono ?_
      rintro e w' ⟨rfl, rfl⟩
      rw [tb_true hp]
      go_wp2
      go_ret
      exact ⟨ret_bool (by rw [HT.out]; simp; omega), (Below.refl _ _).alloc (Nat.le_refl _) _⟩
  · have HT := hide (tb_false (p := (LogRecord.mk p d).ok) (fun h => hp ⟨h.1, h.2.1⟩))
    go_enter Try.func225, Try.ntmps225
    go_wp2_with fail
    refine (l6In_any _ _ _ _).mono ?_
    rintro e w' ⟨rfl, rfl⟩
    rw [tb_false hp]
    go_wp2
    go_ret
    exact ⟨ret_bool HT.out.symm, (Below.refl _ _).alloc (Nat.le_refl _) _⟩

set_option maxRecDepth 100000 in
set_option maxHeartbeats 400000 in
theorem specLogFrame_any (p : Int) (d : ByteArray) (w : World) (hs : d.size ≤ maxLen) :
    Calls Try.prog 185 #[.agg #[.int .i64 p, .string d]] w fun e w' => e = .returned (.string (LogRecord.mk p d).frame) ∧ Below w.heap.size w w' := by
  have hw0 : Below w.heap.size w (w.alloc (.cells #[.int .i64 p, .string d] 59)) := (Below.refl _ _).alloc (Nat.le_refl _) _
  have R0 : Row (w.alloc (.cells #[.int .i64 p, .string d] 59)) w.heap.size 59 [.int .i64 p, .string d] := Row.new w _ _
  have hcv := fun (u : World) => run_conv5 (P := Try.prog) 22 9 5 Try.underlying22 Try.underlying5 Try.underlying9 u
  have hsz := size5
  go_enter Try.func185, Try.ntmps185
  go_wp2_with fail
  refine (specRecordOk_any _ _ _ hs).mono ?_
  rintro e w1 ⟨rfl, hb1⟩
  have hB1 := hw0.trans (hb1.mono hw0.size)
  have R1 := R0.below hb1 R0.lt
  have c0 := R1.cell 0
  have c1 := R1.cell 1
  have z1 : w.heap.size < w1.heap.size := R1.lt
  by_cases h : (LogRecord.mk p d).ok
  · rw [tb_true h]
    have HT := hide (show (LogRecord.mk p d).frame = (LogRecord.mk p d).bytes by unfold LogRecord.frame; rw [tb_true h, if_pos rfl])
    obtain ⟨h1, h2, h3⟩ := h
    change 1 ≤ p at h1
    change p ≤ 999999 at h2
    change d.size ≤ 2000 at h3
    clear hs
    go_wp2
    go_ret
    exact ⟨ret_str HT.out.symm, hB1.alloc hB1.size _⟩
  · rw [tb_false h]
    have HT := hide (show (LogRecord.mk p d).frame = .empty by unfold LogRecord.frame; rw [tb_false h]; rfl)
    go_wp2
    go_ret
    exact ⟨ret_str HT.out.symm, hB1⟩
end Go.Proofs.Ytbjblchhenmgjaa
