/-
  slices.BinarySearch on texts, as this program's text has it.
-/
import Derived.Test.YtdingkbggjehoaaName
import Derived.Shelf.Spec.SearchS
set_option linter.unusedVariables false
set_option linter.unusedSimpArgs false
namespace Go.Proofs.Ytdingkbggjehoaa
open Go.ChangeShapes Go.WideShapes Go.ChangeAt Go.RowKit Go.Shelf

def bsRen : Go.Shelf.Ren := ⟨fun | 26 => 157 | 33 => 190 | 34 => 191 | 38 => 203 | n => n, fun | 0 => 0 | 3 => 3 | 4 => 4 | 9 => 9 | 24 => 22 | 40 => 187 | n => n, fun | n => n⟩
theorem bsLays : Go.Proofs.Lays2.n26 Try.prog bsRen := {
  mixed := by kernel_rfl
  f26 := Try.func157.trans (congrArg some (by kernel_rfl))
  f33 := Try.func190.trans (congrArg some (by kernel_rfl))
  f34 := Try.func191.trans (congrArg some (by kernel_rfl))
  f38 := Try.func203.trans (congrArg some (by kernel_rfl))
  t0 := Try.underlying0
  a0 := Try.isAgg0
  z0 := Try.sizeOf0
  v0 := Try.zeroValue0
  t3 := Try.underlying3
  a3 := Try.isAgg3
  z3 := Try.sizeOf3
  v3 := Try.zeroValue3
  t4 := Try.underlying4
  a4 := Try.isAgg4
  z4 := Try.sizeOf4
  v4 := Try.zeroValue4
  t9 := Try.underlying9
  a9 := Try.isAgg9
  z9 := Try.sizeOf9
  v9 := Try.zeroValue9
  t24 := Try.underlying22
  a24 := Try.isAgg22
  z24 := Try.sizeOf22
  v24 := Try.zeroValue22
  t40 := Try.underlying187
  a40 := Try.isAgg187
  z40 := Try.sizeOf187
  v40 := Try.zeroValue187 }
theorem bsearch_any (b off n c : Nat) (Sx : Nat → ByteArray) (x : ByteArray) (w : World) (hbig : n < 4611686018427387904) (hc : ∀ j, j < n → w.cell? ⟨b, off + j, none⟩ = some (.string (Sx j))) :
    Calls Try.prog 157 #[.slice (some ⟨b, off, none⟩) n c, .string x] w fun e w' =>
      e = .returned (.tuple #[.int .i64 (Lib.bsGo (fun t => Op.bytesLess (Sx t).toList x.toList) n 0 n : Nat), .bool (decide (Lib.bsGo (fun t => Op.bytesLess (Sx t).toList x.toList) n 0 n < n ∧ Sx (Lib.bsGo (fun t => Op.bytesLess (Sx t).toList x.toList) n 0 n) = x))]) ∧ ∃ q, w' = w.drewN q :=
  Any2.slices_BinarySearch_string bsLays b off n c Sx x w hbig hc
end Go.Proofs.Ytdingkbggjehoaa
