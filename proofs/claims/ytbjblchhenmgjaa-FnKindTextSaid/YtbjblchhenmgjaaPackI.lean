/-
  The program's packText.
-/
import Derived.Test.YtbjblchhenmgjaaPack
set_option linter.unusedVariables false
set_option linter.unusedSimpArgs false
namespace Go.Proofs.Ytbjblchhenmgjaa
open Go.ChangeShapes Go.WideShapes Go.ChangeAt Go.RowKit

theorem u8_of (n : Nat) (h : n < 256) : ((UInt8.ofNat n).toNat : Int) = (n : Int) := by
  rw [UInt8.toNat_ofNat']
  omega
set_option maxRecDepth 100000 in
theorem packText_any (bs : List UInt8) (s : ByteArray) (v : Value) (B : Nat) (w : World) (h : Byt w B v bs) (hB : B ≤ w.heap.size) (hs : s.size ≤ 255) (hl : bs.length + (short s).length ≤ 1073741824) :
    Calls Try.prog 168 #[v, .string s] w fun e w' => ∃ v', e = .returned v' ∧ Byt w' B v' (bs ++ short s) ∧ KB B w w' := by
  rw [short_len] at hl
  have H := hide h
  clear h
  go_enter Try.func168, Try.ntmps168
  go_wp2_with (at_builtin; refine wpl_push1 _ _ rfl _ _ rfl B _ bs rfl H.out (UInt8.ofNat s.size) _ rfl ?pg ?pz ?pl ?pb ?_)
  case pg => rfl
  case pz => rw [u8_of _ (by omega)]
  case pl => omega
  case pb => omega
  intro v1 w1 h1 k1
  have H1 := hide h1
  have K1 := hide k1
  have hb1 := K1.out.below.size
  clear h1 k1
  go_wp2_with (at_builtin; refine wpl_str _ rfl _ _ rfl B _ _ rfl H1.out s rfl ?pl ?pb ?_)
  case pl => simp; omega
  case pb => omega
  intro v2 w2 h2 k2
  go_wp2
  go_ret
  exact ⟨v2, rfl, by simpa [short] using h2, K1.out.trans k2⟩
end Go.Proofs.Ytbjblchhenmgjaa
