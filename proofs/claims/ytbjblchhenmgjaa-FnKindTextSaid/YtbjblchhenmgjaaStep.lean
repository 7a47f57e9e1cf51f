/-
  One byte more, at a step of a region that draws its order.
-/
import Derived.Test.YtbjblchhenmgjaaByt
import Derived.Deep.AppendLies
import Derived.Deep.RegionHeld3
set_option linter.unusedVariables false
set_option linter.unusedSimpArgs false
namespace Go.Proofs.Ytbjblchhenmgjaa
open Go.ChangeShapes Go.WideShapes Go.ChangeAt Go.RowKit

section
variable {ops : Array Oper} {o : Oper} {a : Act} {K : Act → World → Prop} {Q : Exit → Act → World → Prop} {E : Prop} (w : World)
theorem step_push (hgd : o.guard = none) (s x : Operand) (ho : o.op = .call { callee := .builtin .append, args := #[s, x], argTypes := #[22, 22] })
    (B : Nat) (v : Value) (bs : List UInt8) (hs : a.eval s = v) (hown : Byt w B v bs) (g c : Nat) (b : UInt8) (z : Int) (hx : a.eval x = .slice (some ⟨g, 0, none⟩) 1 c) (hc : w.cell? ⟨g, 0, none⟩ = some (.int .u8 z)) (hz : z = (b.toNat : Int)) (hl : bs.length + 1 ≤ 1099511627776) (hB : B ≤ w.heap.size)
    (h : ∀ v' w', Byt w' B v' (bs ++ [b]) → KB B w w' → K (a.put o.dst v') w') : if Region.wanted o (yielded ops a.tmps) = true then Oper.wp Try.prog o a w K Q else E := by
  subst hz
  obtain ⟨i0, hi, hz0, hz1, hz2⟩ := info_parts (show (Try.prog.info? 5).map (fun i => (i.zero, i.size, i.bytes)) = some (some (.int .u8 0), 1, 1) by kernel_rfl)
  refine step_append_lies w hgd s x 22 ho B 5 i0 (.int .u8 0) 1 1 Try.underlying22 hi hz0 hz1 hz2 rfl (by decide) v bs.length (u8s bs) hs hown ⟨g, 0, none⟩ 1 c (u8s [b]) hx rfl ?_ (u8s_one [b]) (by decide) (by unfold maxLen; omega) (by omega) hB _ rfl ?_
  · intro j u hj
    match j, hj with
    | 0, hj => simp [u8s] at hj; subst hj; simpa [Addr.add] using hc
  intro g1 cap w' hown' hgrow _ _
  refine h _ w' ?_ (KB.grown hown hgrow hB)
  unfold Byt
  rw [u8s_app, List.length_append]
  exact hown'
theorem step_push1 (z : Int) (hgd : o.guard = none) (s x : Operand) (ho : o.op = .call { callee := .builtin .append, args := #[s, x], argTypes := #[22, 22] })
    (B : Nat) (v : Value) (bs : List UInt8) (hs : a.eval s = v) (hown : Byt w B v bs) (b : UInt8) (g : Nat) (hx : a.eval x = .slice (some ⟨g, 0, none⟩) 1 1) (hg : g = w.heap.size) (hz : z = (b.toNat : Int)) (hl : bs.length + 1 ≤ 1099511627776) (hB : B ≤ w.heap.size)
    (h : ∀ v' w', Byt w' B v' (bs ++ [b]) → KB B w w' → K (a.put o.dst v') w') : if Region.wanted o (yielded ops a.tmps) = true then Oper.wp Try.prog o a (w.alloc (.cells #[.int .u8 z] 5)) K Q else E := by
  subst hg
  exact step_push _ hgd s x ho B v bs hs (hown.alloc _) w.heap.size 1 b z hx (by simp) hz hl (by simp; omega) (fun v' w' h1 h2 => h v' w' h1 (((KB.refl B w).alloc hB _).trans h2))
end
/-- A world behind the draw of a region, and perhaps one new row. -/
def Aft (u W : World) : Prop := W = u.drew ∨ ∃ o, W = u.drew.alloc o
theorem Aft.size {u W : World} (h : Aft u W) : u.heap.size ≤ W.heap.size := by
  rcases h with rfl | ⟨o, rfl⟩
  · exact Nat.le_refl _
  · rw [World.size_alloc]; exact Nat.le_succ _
theorem Aft.below {u W w' : World} (h : Aft u W) (k : Below W.heap.size W w') : Below u.heap.size u w' := by
  have h0 : Below u.heap.size u W := by
    rcases h with rfl | ⟨o, rfl⟩
    · exact ⟨rfl, rfl, rfl, Nat.le_refl _, fun _ _ => rfl⟩
    · exact (Below.refl u.heap.size u).drew.alloc (Nat.le_refl _) o
  exact h0.trans (k.mono h.size)
theorem aft_cell {u w' : World} {v : Value} {t : TypeId} (k : Below (u.drew.alloc (.cells #[v] t)).heap.size (u.drew.alloc (.cells #[v] t)) w') : w'.cell? ⟨u.heap.size, 0, none⟩ = some v := by
  rw [k.cell (p := ⟨u.heap.size, 0, none⟩) (by rw [World.size_alloc]; exact Nat.lt_succ_self _)]
  have h := cell_of_row (u.drew.alloc (.cells #[v] t)) u.drew.heap.size 0 #[v] t (0, 0) (heap_alloc_new u.drew _)
  exact h
end Go.Proofs.Ytbjblchhenmgjaa
