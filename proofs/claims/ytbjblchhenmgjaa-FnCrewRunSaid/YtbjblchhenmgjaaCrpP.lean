/-
  The program's packText. The reference's l4Short, l4Num and l4Tree.
-/
import Derived.Test.YtbjblchhenmgjaaCrpO
set_option linter.unusedVariables false
set_option linter.unusedSimpArgs false
namespace Go.Proofs.Ytbjblchhenmgjaa
open Go.ChangeShapes Go.WideShapes Go.ChangeAt Go.RowKit

theorem u8_of (n : Nat) (h : n < 256) : ((UInt8.ofNat n).toNat : Int) = (n : Int) := by
  rw [UInt8.toNat_ofNat']
  omega
set_option maxRecDepth 100000 in
theorem packText_any (bs : List UInt8) (s : ByteArray) (v : Value) (B : Nat) (w : World) (h : Byt w B v bs) (hB : B ≤ w.heap.size) (hs : s.size ≤ 255) (hl : bs.length + (short s).length ≤ 1073741824) :
    Calls Try.prog 168 #[v, .string s] w fun e w' => ∃ v', e = .returned v' ∧ Byt w' B v' (bs ++ short s) ∧ KB B w w' := by
  rw [short_len] at hl
  have H := hide h
  clear h
  go_enter Try.func168, Try.ntmps168
  go_wp2_with (at_builtin; refine wpl_push1 _ _ rfl _ _ rfl B _ bs rfl H.out (UInt8.ofNat s.size) _ rfl ?pg ?pz ?pl ?pb ?_)
  case pg => rfl
  case pz => rw [u8_of _ (by omega)]
  case pl => omega
  case pb => omega
  intro v1 w1 h1 k1
  have H1 := hide h1
  have K1 := hide k1
  have hb1 := K1.out.below.size
  clear h1 k1
  go_wp2_with (at_builtin; refine wpl_str _ rfl _ _ rfl B _ _ rfl H1.out s rfl ?pl ?pb ?_)
  case pl => simp; omega
  case pb => omega
  intro v2 w2 h2 k2
  go_wp2
  go_ret
  exact ⟨v2, rfl, by simpa [short] using h2, K1.out.trans k2⟩
end Go.Proofs.Ytbjblchhenmgjaa
namespace Go.Proofs.Ytbjblchhenmgjaa
open Go.ChangeShapes Go.WideShapes Go.ChangeAt Go.RowKit

theorem bw_below (w : World) (e : TypeId) (s : ByteArray) : Below w.heap.size w (Lib.bytesWorld w e s) :=
  ⟨rfl, rfl, rfl, by rw [Lib.bytesWorld_size]; omega, fun k hk => Lib.bytesWorld_at_old w e s k hk⟩
theorem bw_cells (w : World) (e : TypeId) (s : ByteArray) (g : Nat) (hg : g = w.heap.size) : ∀ j u, (u8s s.data.toList)[j]? = some u → (Lib.bytesWorld w e s).cell? ((⟨g, 0, none⟩ : Addr).add j) = some u := by
  subst hg
  intro j u hj
  have hjl : j < s.size := by
    have := (List.getElem?_eq_some_iff.1 hj).1
    rw [u8s_len, Array.length_toList] at this
    exact this
  have hadd : (⟨w.heap.size, 0, none⟩ : Addr).add j = ⟨w.heap.size, j, none⟩ := by unfold Addr.add; split <;> simp_all
  rw [hadd, Lib.bytesWorld_cell w e s j hjl]
  have hjl' : j < s.data.toList.length := by rw [Array.length_toList]; exact hjl
  rw [← hj]
  simp only [u8s, List.getElem?_map, List.getElem?_eq_getElem hjl', List.getD_eq_getElem?_getD, Option.map_some, Option.getD_some]

set_option maxRecDepth 100000 in
theorem l4Short_any (s : ByteArray) (w : World) (hs : s.size ≤ 255) :
    Calls Try.prog 163 #[.string s] w fun e w' => ∃ v', e = .returned v' ∧ Byt w' w.heap.size v' (short s) ∧ Below w.heap.size w w' := by
  have hcv := fun (u : World) => Lib.run_convert_string_bytes (P := Try.prog) u 9 22 5 s Try.underlying9 Try.underlying22 Try.underlying5
  have hz : ((s.size : Nat) : Int) = ((UInt8.ofNat s.size).toNat : Int) := (u8_of _ (by omega)).symm
  have H0 := hide (Byt.new w (UInt8.ofNat s.size))
  rw [← hz] at H0
  clear hz
  go_enter Try.func163, Try.ntmps163
  go_wp2_with (at_builtin; refine wpl_cells _ rfl _ _ rfl w.heap.size _ [UInt8.ofNat s.size] s.data.toList rfl (H0.out.below (bw_below _ _ _)) _ _ _ rfl ?qn ?qc ?ql ?qb ?_)
  case qn => rw [Array.length_toList]; rfl
  case qc => exact bw_cells _ _ _ _ (by simp)
  case ql => simp only [List.length_cons, List.length_nil, Array.length_toList]; show 0 + 1 + s.size ≤ _; omega
  case qb => rw [Lib.bytesWorld_size]; simp; omega
  intro v1 w1 h1 k1
  go_wp2
  go_ret
  refine ⟨v1, rfl, h1, ?_⟩
  exact ((Below.refl w.heap.size w).alloc (Nat.le_refl _) _).trans (((bw_below _ _ _).mono (by simp)).trans k1.below)
end Go.Proofs.Ytbjblchhenmgjaa
