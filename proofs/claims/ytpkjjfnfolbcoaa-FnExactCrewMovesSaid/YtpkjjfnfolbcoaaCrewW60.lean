/-
  Whether those have ended who may have: the reference.
-/
import Derived.Test.YtpkjjfnfolbcoaaCrewW5
set_option linter.unusedVariables false
set_option linter.unusedSimpArgs false
namespace Go.Proofs.Ytpkjjfnfolbcoaa
open Go.ChangeShapes Go.WideShapes Go.ChangeAt Go.RowKit

section
variable {P : Program} {ops : Array Oper} {rest : List Oper} {o : Oper} {a : Act} {w : World} {Q : Exit → Act → World → Prop}
/-- a whole row is loaded, where the guard asks for it -/
theorem wpl_load_row_g (hw : Region.wanted o (yielded ops a.tmps) = true) (ty : TypeId) (x : Operand) (ho : o.op = .load ty x)
    (g : Nat) (hx : a.eval x = .pointer (some ⟨g, 0, none⟩)) (t : TypeId) (cs : Array Value) (fr : Nat × Nat) (d : TypeDesc) (hg : w.heap[g]? = some (.cells cs t fr))
    (hu : P.underlying ty = some d) (hd : (match d with | .struct _ | .array _ _ => true | _ => false) = true) (hi : (P.info? ty).map (·.size) = some cs.size)
    (h : wpList P ops Q rest (a.put o.dst (.agg cs)) w) : wpList P ops Q (o :: rest) a w :=
  wpList_step fun K hK => by
    simp only [hw, if_true]
    exact wp_load_row ty x ho g hx t cs fr d hg hu hd hi (hK _ _ h)
/-- a value is moved, and behind it a whole row is loaded, where the guard asks for it -/
theorem wpl_move_load_row {o1 o2 : Oper} (h1 : o1.guard = none) (x1 : Operand) (v1 : Value) (ho1 : o1.op = .move x1) (hv1 : a.eval x1 = v1) (hw : Region.wanted o2 (yielded ops (a.put o1.dst v1).tmps) = true) (ty : TypeId) (x : Operand) (ho : o2.op = .load ty x)
    (g : Nat) (hx : (a.put o1.dst v1).eval x = .pointer (some ⟨g, 0, none⟩)) (t : TypeId) (cs : Array Value) (fr : Nat × Nat) (d : TypeDesc) (hg : w.heap[g]? = some (.cells cs t fr))
    (hu : P.underlying ty = some d) (hd : (match d with | .struct _ | .array _ _ => true | _ => false) = true) (hi : (P.info? ty).map (·.size) = some cs.size)
    (h : wpList P ops Q rest ((a.put o1.dst v1).put o2.dst (.agg cs)) w) : wpList P ops Q (o1 :: o2 :: rest) a w :=
  wpList_plain h1 fun K hK => by
    have hq := hK _ _ (wpl_load_row_g hw ty x ho g hx t cs fr d hg hu hd hi h)
    subst hv1
    unfold Oper.wp execOp
    simpa [ho1, Oper.upon] using hq
end
theorem bit_eq {a b c : Int} (h : 0 ≤ a ∧ a ≤ 1) : ((a == 1) == (b == c)) = tb (a = bitP (b = c)) := by
  obtain rfl | rfl : a = 0 ∨ a = 1 := by omega
  all_goals
    by_cases hb : b = c
    · unfold bitP
      rw [if_pos hb]
      first | (rw [tb_false (by omega)]; simp [hb]) | (rw [tb_true rfl]; simp [hb])
    · unfold bitP
      rw [if_neg hb]
      first | (rw [tb_false (by omega)]; simp [hb]) | (rw [tb_true rfl]; simp [hb])
theorem beqf {a b : Int} (h : ¬ a = b) : (a == b) = false := beq_eq_false_iff_ne.2 h
theorem beqt {a b : Int} (h : a = b) : (a == b) = true := by simpa using h
theorem bnet {a b : Int} (h : ¬ a = b) : (a != b) = true := by simpa using h
theorem bnef {a b : Int} (h : a = b) : (a != b) = false := by simpa using h
end Go.Proofs.Ytpkjjfnfolbcoaa
