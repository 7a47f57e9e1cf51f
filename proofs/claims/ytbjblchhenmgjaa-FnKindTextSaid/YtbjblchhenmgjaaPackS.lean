/-
  The reference's l4Short, l4Num and l4Tree.
-/
import Derived.Test.YtbjblchhenmgjaaPackI
set_option linter.unusedVariables false
set_option linter.unusedSimpArgs false
namespace Go.Proofs.Ytbjblchhenmgjaa
open Go.ChangeShapes Go.WideShapes Go.ChangeAt Go.RowKit

theorem bw_below (w : World) (e : TypeId) (s : ByteArray) : Below w.heap.size w (Lib.bytesWorld w e s) :=
  ⟨rfl, rfl, rfl, by rw [Lib.bytesWorld_size]; omega, fun k hk => Lib.bytesWorld_at_old w e s k hk⟩
theorem bw_cells (w : World) (e : TypeId) (s : ByteArray) (g : Nat) (hg : g = w.heap.size) : ∀ j u, (u8s s.data.toList)[j]? = some u → (Lib.bytesWorld w e s).cell? ((⟨g, 0, none⟩ : Addr).add j) = some u := by
  subst hg
  intro j u hj
  have hjl : j < s.size := by
    have := (List.getElem?_eq_some_iff.1 hj).1
    rw [u8s_len, Array.length_toList] at this
    exact this
  have hadd : (⟨w.heap.size, 0, none⟩ : Addr).add j = ⟨w.heap.size, j, none⟩ := by unfold Addr.add; split <;> simp_all
  rw [hadd, Lib.bytesWorld_cell w e s j hjl]
  have hjl' : j < s.data.toList.length := by rw [Array.length_toList]; exact hjl
  rw [← hj]
  simp only [u8s, List.getElem?_map, List.getElem?_eq_getElem hjl', List.getD_eq_getElem?_getD, Option.map_some, Option.getD_some]

set_option maxRecDepth 100000 in
theorem l4Short_any (s : ByteArray) (w : World) (hs : s.size ≤ 255) :
    Calls Try.prog 163 #[.string s] w fun e w' => ∃ v', e = .returned v' ∧ Byt w' w.heap.size v' (short s) ∧ Below w.heap.size w w' := by
  have hcv := fun (u : World) => Lib.run_convert_string_bytes (P := Try.prog) u 9 22 5 s Try.underlying9 Try.underlying22 Try.underlying5
  have hz : ((s.size : Nat) : Int) = ((UInt8.ofNat s.size).toNat : Int) := (u8_of _ (by omega)).symm
  have H0 := hide (Byt.new w (UInt8.ofNat s.size))
  rw [← hz] at H0
  clear hz
  go_enter Try.func163, Try.ntmps163
  go_wp2_with (at_builtin; refine wpl_cells _ rfl _ _ rfl w.heap.size _ [UInt8.ofNat s.size] s.data.toList rfl (H0.out.below (bw_below _ _ _)) _ _ _ rfl ?qn ?qc ?ql ?qb ?_)
  case qn => rw [Array.length_toList]; rfl
  case qc => exact bw_cells _ _ _ _ (by simp)
  case ql => simp only [List.length_cons, List.length_nil, Array.length_toList]; show 0 + 1 + s.size ≤ _; omega
  case qb => rw [Lib.bytesWorld_size]; simp; omega
  intro v1 w1 h1 k1
  go_wp2
  go_ret
  refine ⟨v1, rfl, h1, ?_⟩
  exact ((Below.refl w.heap.size w).alloc (Nat.le_refl _) _).trans (((bw_below _ _ _).mono (by simp)).trans k1.below)
end Go.Proofs.Ytbjblchhenmgjaa
