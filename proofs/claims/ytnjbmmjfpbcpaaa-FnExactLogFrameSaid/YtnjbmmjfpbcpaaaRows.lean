/-
  NARROWER THAN 'FOR EVERY INPUT', by the rows' own cells (each row's printed sentence says how): FnExactKindOk: loops.
  DERIVED. THE GIVEN ROWS OF THIS SEAT. 6 by the template 'for every input the law returns true; each argument reads behind the call as it read before'; 0 by the template 'total and deterministic' (their statements: YtnjbmmjfpbcpaaaTotals.lean).
  GIVEN WITH THE SEED: the statements are not yours to turn. If you find one false, say at which input.
  Laid BY PROGRAM, IN A SANDBOX (cutbox-rows.mjs): the forced cells as the released guide's own fill.sh prints them over the translation ea2b55f8404eceb4… (all of the seat's roots in one cut). By AI agents, Wed Nov 11 2026. No macro, syntax, notation, axiom, sorry.
-/
import Derived.Test.YtnjbmmjfpbcpaaaChecked
import GoSem.Claim
import GoSem.ClaimJoined
import GoSem.ClaimMapViews
import Derived.JoinedTies
import Derived.KernelRfl
namespace Go.Proofs.Ytnjbmmjfpbcpaaa
/- THE CELL 'sum', in the pinned program and in every row, IS THE sha256 OF THE DUMP (.gsa) THAT YtnjbmmjfpbcpaaaProg.lean LOADS. Nothing in Lean hashes anything: it is a label: what it is worth is what the hold of that sum in a sandbox is worth. -/
noncomputable def Try.pinned : Pinned := { name := "ytnjbmmjfpbcpaaa", sum := "ea2b55f8404eceb4f909e17431c2b0191436f4bfd3cbaba43b25494527524cc5", checked := Try.checked }
namespace Rows
def none {H : Type} : Left H := { results := [], args := [] }

/-- 'laws.FnExactConstants': WHATEVER THE INPUT: true; the input reads as it did. -/
def fnExactConstantsSpec : ChangeSpec := { name := "fnExactConstants", fn := fun _ => fun
  | [] => { results := [.lit (.bool true)], args := [] }
  | _ => none }
def fnExactConstantsRow : OpenClaim := { program := "ytnjbmmjfpbcpaaa", sum := "ea2b55f8404eceb4f909e17431c2b0191436f4bfd3cbaba43b25494527524cc5", func := "loop.example/teagle/laws.FnExactConstants", spec := "fnExactConstants", apart := false }
def FnExactConstantsSaid : Prop := fnExactConstantsRow.holds Try.pinned (OpenSpec.ofChange fnExactConstantsSpec)

/-- ITS FALSE NEIGHBOUR: 'it returns false'. Refute it at one input. -/
def fnExactConstantsWrong : ChangeSpec := { name := "fnExactConstants", fn := fun _ => fun
  | [] => { results := [.lit (.bool false)], args := [] }
  | _ => none }
def FnExactConstantsWrongFalsely : Prop := fnExactConstantsRow.holds Try.pinned (OpenSpec.ofChange fnExactConstantsWrong)

/-- 'laws.FnExactLogFrame': WHATEVER THE INPUT: true; the input reads as it did. -/
def fnExactLogFrameSpec : ChangeSpec := { name := "fnExactLogFrame", fn := fun _ => fun
  | [d] => { results := [.lit (.bool true)], args := [d] }
  | _ => none }
def fnExactLogFrameRow : OpenClaim := { program := "ytnjbmmjfpbcpaaa", sum := "ea2b55f8404eceb4f909e17431c2b0191436f4bfd3cbaba43b25494527524cc5", func := "loop.example/teagle/laws.FnExactLogFrame", spec := "fnExactLogFrame", apart := false }
def FnExactLogFrameSaid : Prop := fnExactLogFrameRow.holds Try.pinned (OpenSpec.ofChange fnExactLogFrameSpec)

/-- ITS FALSE NEIGHBOUR: 'it returns false'. Refute it at one input. -/
def fnExactLogFrameWrong : ChangeSpec := { name := "fnExactLogFrame", fn := fun _ => fun
  | [d] => { results := [.lit (.bool false)], args := [d] }
  | _ => none }
def FnExactLogFrameWrongFalsely : Prop := fnExactLogFrameRow.holds Try.pinned (OpenSpec.ofChange fnExactLogFrameWrong)

/-- 'laws.FnExactLogFrames': WHATEVER THE INPUT: true; the input reads as it did. -/
def fnExactLogFramesSpec : ChangeSpec := { name := "fnExactLogFrames", fn := fun _ => fun
  | [d] => { results := [.lit (.bool true)], args := [d] }
  | _ => none }
def fnExactLogFramesRow : OpenClaim := { program := "ytnjbmmjfpbcpaaa", sum := "ea2b55f8404eceb4f909e17431c2b0191436f4bfd3cbaba43b25494527524cc5", func := "loop.example/teagle/laws.FnExactLogFrames", spec := "fnExactLogFrames", apart := false }
def FnExactLogFramesSaid : Prop := fnExactLogFramesRow.holds Try.pinned (OpenSpec.ofChange fnExactLogFramesSpec)

/-- ITS FALSE NEIGHBOUR: 'it returns false'. Refute it at one input. -/
def fnExactLogFramesWrong : ChangeSpec := { name := "fnExactLogFrames", fn := fun _ => fun
  | [d] => { results := [.lit (.bool false)], args := [d] }
  | _ => none }
def FnExactLogFramesWrongFalsely : Prop := fnExactLogFramesRow.holds Try.pinned (OpenSpec.ofChange fnExactLogFramesWrong)

/-- 'laws.FnExactLogPlanOk': WHATEVER THE INPUT: true; the input reads as it did. -/
def fnExactLogPlanOkSpec : ChangeSpec := { name := "fnExactLogPlanOk", fn := fun _ => fun
  | [d] => { results := [.lit (.bool true)], args := [d] }
  | _ => none }
def fnExactLogPlanOkRow : OpenClaim := { program := "ytnjbmmjfpbcpaaa", sum := "ea2b55f8404eceb4f909e17431c2b0191436f4bfd3cbaba43b25494527524cc5", func := "loop.example/teagle/laws.FnExactLogPlanOk", spec := "fnExactLogPlanOk", apart := false }
def FnExactLogPlanOkSaid : Prop := fnExactLogPlanOkRow.holds Try.pinned (OpenSpec.ofChange fnExactLogPlanOkSpec)

/-- ITS FALSE NEIGHBOUR: 'it returns false'. Refute it at one input. -/
def fnExactLogPlanOkWrong : ChangeSpec := { name := "fnExactLogPlanOk", fn := fun _ => fun
  | [d] => { results := [.lit (.bool false)], args := [d] }
  | _ => none }
def FnExactLogPlanOkWrongFalsely : Prop := fnExactLogPlanOkRow.holds Try.pinned (OpenSpec.ofChange fnExactLogPlanOkWrong)

/-- 'laws.FnLogFrames': WHATEVER THE INPUT: true; the input reads as it did. -/
def fnLogFramesSpec : ChangeSpec := { name := "fnLogFrames", fn := fun _ => fun
  | [d] => { results := [.lit (.bool true)], args := [d] }
  | _ => none }
def fnLogFramesRow : OpenClaim := { program := "ytnjbmmjfpbcpaaa", sum := "ea2b55f8404eceb4f909e17431c2b0191436f4bfd3cbaba43b25494527524cc5", func := "loop.example/teagle/laws.FnLogFrames", spec := "fnLogFrames", recurses := true, apart := false }
def FnLogFramesSaid : Prop := fnLogFramesRow.holds Try.pinned (OpenSpec.ofChange fnLogFramesSpec)

/-- ITS FALSE NEIGHBOUR: 'it returns false'. Refute it at one input. -/
def fnLogFramesWrong : ChangeSpec := { name := "fnLogFrames", fn := fun _ => fun
  | [d] => { results := [.lit (.bool false)], args := [d] }
  | _ => none }
def FnLogFramesWrongFalsely : Prop := fnLogFramesRow.holds Try.pinned (OpenSpec.ofChange fnLogFramesWrong)

/-- 'laws.FnExactKindOk': WHATEVER THE INPUT: true; the input reads as it did. -/
def fnExactKindOkSpec : ChangeSpec := { name := "fnExactKindOk", fn := fun _ => fun
  | [d] => { results := [.lit (.bool true)], args := [d] }
  | _ => none }
def fnExactKindOkRow : OpenClaim := { program := "ytnjbmmjfpbcpaaa", sum := "ea2b55f8404eceb4f909e17431c2b0191436f4bfd3cbaba43b25494527524cc5", func := "loop.example/teagle/laws.FnExactKindOk", spec := "fnExactKindOk", recurses := true, loops := true, apart := false }
def FnExactKindOkSaid : Prop := fnExactKindOkRow.holds Try.pinned (OpenSpec.ofChange fnExactKindOkSpec)

/-- ITS FALSE NEIGHBOUR: 'it returns false'. Refute it at one input. -/
def fnExactKindOkWrong : ChangeSpec := { name := "fnExactKindOk", fn := fun _ => fun
  | [d] => { results := [.lit (.bool false)], args := [d] }
  | _ => none }
def FnExactKindOkWrongFalsely : Prop := fnExactKindOkRow.holds Try.pinned (OpenSpec.ofChange fnExactKindOkWrong)

/- THE SECOND FORM. 'bulk': how many values and letters a reading holds, each counted each time it is reached (what is shared counts as often as it is met; a slice's spare places count too). A statement '..UptoSaid' is the law's where the arguments, and the package variables that the reading takes, are together of bulk at most 1048576: NARROWER than '..Said'. Prove '..Said' where nothing that the law and all that it calls make is longer than what came in: it says more and counts as full. Else prove '..UptoSaid'. A law counts once. -/
mutual
def uptoBulk {H : Type} : DataW H → Nat
  | .lit (.string bytes) => bytes.length + 1
  | .lit _ => 1
  | .nil => 1
  | .ptr d => uptoBulk d + 1
  | .slice elems spare => uptoBulkAll elems + uptoBulkAll spare + 1
  | .agg parts => uptoBulkAll parts + 1
  | .iface _ d => uptoBulk d + 1
  | .map entries => uptoBulkEntries entries + 1
  | .held _ => 1
def uptoBulkAll {H : Type} : List (DataW H) → Nat
  | [] => 0
  | d :: r => uptoBulk d + uptoBulkAll r
def uptoBulkEntries {H : Type} : List (Lit × DataW H) → Nat
  | [] => 0
  | x :: r => uptoBulkEntry x + uptoBulkEntries r
def uptoBulkEntry {H : Type} : Lit × DataW H → Nat
  | (.string bytes, d) => bytes.length + uptoBulk d + 1
  | (_, d) => uptoBulk d + 1
 end
def uptoSmall : (H : Type) → List (DataW H) → Bool := fun _ ds => decide (uptoBulkAll ds ≤ 1048576)
def OpenSpec.upto (s : _root_.Go.ChangeSpec) : _root_.Go.OpenSpec := { _root_.Go.OpenSpec.ofChange s with cond := some uptoSmall }

/-- 'laws.FnExactConstants', WHERE WHAT IT READS IS OF BULK AT MOST 1048576: true; the input reads as it did. -/
def fnExactConstantsUptoRow : OpenClaim := { program := "ytnjbmmjfpbcpaaa", sum := "ea2b55f8404eceb4f909e17431c2b0191436f4bfd3cbaba43b25494527524cc5", func := "loop.example/teagle/laws.FnExactConstants", spec := "fnExactConstants", apart := false, narrowed := true }
def FnExactConstantsUptoSaid : Prop := fnExactConstantsUptoRow.holds Try.pinned (OpenSpec.upto fnExactConstantsSpec)

/-- 'laws.FnExactLogFrame', WHERE WHAT IT READS IS OF BULK AT MOST 1048576: true; the input reads as it did. -/
def fnExactLogFrameUptoRow : OpenClaim := { program := "ytnjbmmjfpbcpaaa", sum := "ea2b55f8404eceb4f909e17431c2b0191436f4bfd3cbaba43b25494527524cc5", func := "loop.example/teagle/laws.FnExactLogFrame", spec := "fnExactLogFrame", apart := false, narrowed := true }
def FnExactLogFrameUptoSaid : Prop := fnExactLogFrameUptoRow.holds Try.pinned (OpenSpec.upto fnExactLogFrameSpec)

/-- 'laws.FnExactLogFrames', WHERE WHAT IT READS IS OF BULK AT MOST 1048576: true; the input reads as it did. -/
def fnExactLogFramesUptoRow : OpenClaim := { program := "ytnjbmmjfpbcpaaa", sum := "ea2b55f8404eceb4f909e17431c2b0191436f4bfd3cbaba43b25494527524cc5", func := "loop.example/teagle/laws.FnExactLogFrames", spec := "fnExactLogFrames", apart := false, narrowed := true }
def FnExactLogFramesUptoSaid : Prop := fnExactLogFramesUptoRow.holds Try.pinned (OpenSpec.upto fnExactLogFramesSpec)

/-- 'laws.FnExactLogPlanOk', WHERE WHAT IT READS IS OF BULK AT MOST 1048576: true; the input reads as it did. -/
def fnExactLogPlanOkUptoRow : OpenClaim := { program := "ytnjbmmjfpbcpaaa", sum := "ea2b55f8404eceb4f909e17431c2b0191436f4bfd3cbaba43b25494527524cc5", func := "loop.example/teagle/laws.FnExactLogPlanOk", spec := "fnExactLogPlanOk", apart := false, narrowed := true }
def FnExactLogPlanOkUptoSaid : Prop := fnExactLogPlanOkUptoRow.holds Try.pinned (OpenSpec.upto fnExactLogPlanOkSpec)

/-- 'laws.FnLogFrames', WHERE WHAT IT READS IS OF BULK AT MOST 1048576: true; the input reads as it did. -/
def fnLogFramesUptoRow : OpenClaim := { program := "ytnjbmmjfpbcpaaa", sum := "ea2b55f8404eceb4f909e17431c2b0191436f4bfd3cbaba43b25494527524cc5", func := "loop.example/teagle/laws.FnLogFrames", spec := "fnLogFrames", recurses := true, apart := false, narrowed := true }
def FnLogFramesUptoSaid : Prop := fnLogFramesUptoRow.holds Try.pinned (OpenSpec.upto fnLogFramesSpec)

/-- 'laws.FnExactKindOk', WHERE WHAT IT READS IS OF BULK AT MOST 1048576: true; the input reads as it did. -/
def fnExactKindOkUptoRow : OpenClaim := { program := "ytnjbmmjfpbcpaaa", sum := "ea2b55f8404eceb4f909e17431c2b0191436f4bfd3cbaba43b25494527524cc5", func := "loop.example/teagle/laws.FnExactKindOk", spec := "fnExactKindOk", recurses := true, loops := true, apart := false, narrowed := true }
def FnExactKindOkUptoSaid : Prop := fnExactKindOkUptoRow.holds Try.pinned (OpenSpec.upto fnExactKindOkSpec)

end Rows
end Go.Proofs.Ytnjbmmjfpbcpaaa
