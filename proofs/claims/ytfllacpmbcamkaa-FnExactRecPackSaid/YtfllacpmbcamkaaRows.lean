/-
  NARROWER THAN 'FOR EVERY INPUT', by the rows' own cells (each row's printed sentence says how): FnExactKindFits: loops · FnExactEventOk: loops · FnExactKindHas: loops · FnExactRecOk: loops · FnExactRecPack: loops · FnExactKindFirst: loops · FnExactEventPack: loops.
  DERIVED. THE GIVEN ROWS OF THIS SEAT. 10 by the template 'for every input the law returns true; each argument reads behind the call as it read before'; 0 by the template 'total and deterministic' (their statements: YtfllacpmbcamkaaTotals.lean).
  GIVEN WITH THE SEED: the statements are not yours to turn. If you find one false, say at which input.
  Laid BY PROGRAM, IN A SANDBOX (cutbox-rows.mjs): the forced cells as the released guide's own fill.sh prints them over the translation 18ca59a658467a6e… (all of the seat's roots in one cut). By AI agents, Wed Nov 11 2026. No macro, syntax, notation, axiom, sorry.
-/
import Derived.Test.YtfllacpmbcamkaaChecked
import GoSem.Claim
import GoSem.ClaimJoined
import GoSem.ClaimMapViews
import Derived.JoinedTies
import Derived.KernelRfl
namespace Go.Proofs.Ytfllacpmbcamkaa
/- THE CELL 'sum', in the pinned program and in every row, IS THE sha256 OF THE DUMP (.gsa) THAT YtfllacpmbcamkaaProg.lean LOADS. Nothing in Lean hashes anything: it is a label: what it is worth is what the hold of that sum in a sandbox is worth. -/
noncomputable def Try.pinned : Pinned := { name := "ytfllacpmbcamkaa", sum := "18ca59a658467a6ef4e4e2556eacfd9797b73de61ac055dd4412aadae1a0412b", checked := Try.checked }
namespace Rows
def none {H : Type} : Left H := { results := [], args := [] }

/-- 'laws.FnExactKindFits': WHATEVER THE INPUT: true; the input reads as it did. -/
def fnExactKindFitsSpec : ChangeSpec := { name := "fnExactKindFits", fn := fun _ => fun
  | [d1, d2] => { results := [.lit (.bool true)], args := [d1, d2] }
  | _ => none }
def fnExactKindFitsRow : OpenClaim := { program := "ytfllacpmbcamkaa", sum := "18ca59a658467a6ef4e4e2556eacfd9797b73de61ac055dd4412aadae1a0412b", func := "loop.example/teagle/laws.FnExactKindFits", spec := "fnExactKindFits", recurses := true, loops := true, apart := false }
def FnExactKindFitsSaid : Prop := fnExactKindFitsRow.holds Try.pinned (OpenSpec.ofChange fnExactKindFitsSpec)

/-- ITS FALSE NEIGHBOUR: 'it returns false'. Refute it at one input. -/
def fnExactKindFitsWrong : ChangeSpec := { name := "fnExactKindFits", fn := fun _ => fun
  | [d1, d2] => { results := [.lit (.bool false)], args := [d1, d2] }
  | _ => none }
def FnExactKindFitsWrongFalsely : Prop := fnExactKindFitsRow.holds Try.pinned (OpenSpec.ofChange fnExactKindFitsWrong)

/-- 'laws.FnExactEventOk': WHATEVER THE INPUT: true; the input reads as it did. -/
def fnExactEventOkSpec : ChangeSpec := { name := "fnExactEventOk", fn := fun _ => fun
  | [d] => { results := [.lit (.bool true)], args := [d] }
  | _ => none }
def fnExactEventOkRow : OpenClaim := { program := "ytfllacpmbcamkaa", sum := "18ca59a658467a6ef4e4e2556eacfd9797b73de61ac055dd4412aadae1a0412b", func := "loop.example/teagle/laws.FnExactEventOk", spec := "fnExactEventOk", recurses := true, loops := true, apart := false }
def FnExactEventOkSaid : Prop := fnExactEventOkRow.holds Try.pinned (OpenSpec.ofChange fnExactEventOkSpec)

/-- ITS FALSE NEIGHBOUR: 'it returns false'. Refute it at one input. -/
def fnExactEventOkWrong : ChangeSpec := { name := "fnExactEventOk", fn := fun _ => fun
  | [d] => { results := [.lit (.bool false)], args := [d] }
  | _ => none }
def FnExactEventOkWrongFalsely : Prop := fnExactEventOkRow.holds Try.pinned (OpenSpec.ofChange fnExactEventOkWrong)

/-- 'laws.FnExactKindHas': WHATEVER THE INPUT: true; the input reads as it did. -/
def fnExactKindHasSpec : ChangeSpec := { name := "fnExactKindHas", fn := fun _ => fun
  | [d1, d2] => { results := [.lit (.bool true)], args := [d1, d2] }
  | _ => none }
def fnExactKindHasRow : OpenClaim := { program := "ytfllacpmbcamkaa", sum := "18ca59a658467a6ef4e4e2556eacfd9797b73de61ac055dd4412aadae1a0412b", func := "loop.example/teagle/laws.FnExactKindHas", spec := "fnExactKindHas", recurses := true, loops := true, apart := false }
def FnExactKindHasSaid : Prop := fnExactKindHasRow.holds Try.pinned (OpenSpec.ofChange fnExactKindHasSpec)

/-- ITS FALSE NEIGHBOUR: 'it returns false'. Refute it at one input. -/
def fnExactKindHasWrong : ChangeSpec := { name := "fnExactKindHas", fn := fun _ => fun
  | [d1, d2] => { results := [.lit (.bool false)], args := [d1, d2] }
  | _ => none }
def FnExactKindHasWrongFalsely : Prop := fnExactKindHasRow.holds Try.pinned (OpenSpec.ofChange fnExactKindHasWrong)

/-- 'laws.FnExactRecOk': WHATEVER THE INPUT: true; the input reads as it did. -/
def fnExactRecOkSpec : ChangeSpec := { name := "fnExactRecOk", fn := fun _ => fun
  | [d] => { results := [.lit (.bool true)], args := [d] }
  | _ => none }
def fnExactRecOkRow : OpenClaim := { program := "ytfllacpmbcamkaa", sum := "18ca59a658467a6ef4e4e2556eacfd9797b73de61ac055dd4412aadae1a0412b", func := "loop.example/teagle/laws.FnExactRecOk", spec := "fnExactRecOk", unfollowed := true, recurses := true, loops := true, apart := false }
def FnExactRecOkSaid : Prop := fnExactRecOkRow.holds Try.pinned (OpenSpec.ofChange fnExactRecOkSpec)

/-- ITS FALSE NEIGHBOUR: 'it returns false'. Refute it at one input. -/
def fnExactRecOkWrong : ChangeSpec := { name := "fnExactRecOk", fn := fun _ => fun
  | [d] => { results := [.lit (.bool false)], args := [d] }
  | _ => none }
def FnExactRecOkWrongFalsely : Prop := fnExactRecOkRow.holds Try.pinned (OpenSpec.ofChange fnExactRecOkWrong)

/-- 'laws.FnExactRecPack': WHATEVER THE INPUT: true; the input reads as it did. -/
def fnExactRecPackSpec : ChangeSpec := { name := "fnExactRecPack", fn := fun _ => fun
  | [d] => { results := [.lit (.bool true)], args := [d] }
  | _ => none }
def fnExactRecPackRow : OpenClaim := { program := "ytfllacpmbcamkaa", sum := "18ca59a658467a6ef4e4e2556eacfd9797b73de61ac055dd4412aadae1a0412b", func := "loop.example/teagle/laws.FnExactRecPack", spec := "fnExactRecPack", unfollowed := true, recurses := true, loops := true, apart := false }
def FnExactRecPackSaid : Prop := fnExactRecPackRow.holds Try.pinned (OpenSpec.ofChange fnExactRecPackSpec)

/-- ITS FALSE NEIGHBOUR: 'it returns false'. Refute it at one input. -/
def fnExactRecPackWrong : ChangeSpec := { name := "fnExactRecPack", fn := fun _ => fun
  | [d] => { results := [.lit (.bool false)], args := [d] }
  | _ => none }
def FnExactRecPackWrongFalsely : Prop := fnExactRecPackRow.holds Try.pinned (OpenSpec.ofChange fnExactRecPackWrong)

/-- 'laws.FnExactLogPlanOk': WHATEVER THE INPUT: true; the input reads as it did. -/
def fnExactLogPlanOkSpec : ChangeSpec := { name := "fnExactLogPlanOk", fn := fun _ => fun
  | [d] => { results := [.lit (.bool true)], args := [d] }
  | _ => none }
def fnExactLogPlanOkRow : OpenClaim := { program := "ytfllacpmbcamkaa", sum := "18ca59a658467a6ef4e4e2556eacfd9797b73de61ac055dd4412aadae1a0412b", func := "loop.example/teagle/laws.FnExactLogPlanOk", spec := "fnExactLogPlanOk", apart := false }
def FnExactLogPlanOkSaid : Prop := fnExactLogPlanOkRow.holds Try.pinned (OpenSpec.ofChange fnExactLogPlanOkSpec)

/-- ITS FALSE NEIGHBOUR: 'it returns false'. Refute it at one input. -/
def fnExactLogPlanOkWrong : ChangeSpec := { name := "fnExactLogPlanOk", fn := fun _ => fun
  | [d] => { results := [.lit (.bool false)], args := [d] }
  | _ => none }
def FnExactLogPlanOkWrongFalsely : Prop := fnExactLogPlanOkRow.holds Try.pinned (OpenSpec.ofChange fnExactLogPlanOkWrong)

/-- 'laws.FnExactLogFrames': WHATEVER THE INPUT: true; the input reads as it did. -/
def fnExactLogFramesSpec : ChangeSpec := { name := "fnExactLogFrames", fn := fun _ => fun
  | [d] => { results := [.lit (.bool true)], args := [d] }
  | _ => none }
def fnExactLogFramesRow : OpenClaim := { program := "ytfllacpmbcamkaa", sum := "18ca59a658467a6ef4e4e2556eacfd9797b73de61ac055dd4412aadae1a0412b", func := "loop.example/teagle/laws.FnExactLogFrames", spec := "fnExactLogFrames", apart := false }
def FnExactLogFramesSaid : Prop := fnExactLogFramesRow.holds Try.pinned (OpenSpec.ofChange fnExactLogFramesSpec)

/-- ITS FALSE NEIGHBOUR: 'it returns false'. Refute it at one input. -/
def fnExactLogFramesWrong : ChangeSpec := { name := "fnExactLogFrames", fn := fun _ => fun
  | [d] => { results := [.lit (.bool false)], args := [d] }
  | _ => none }
def FnExactLogFramesWrongFalsely : Prop := fnExactLogFramesRow.holds Try.pinned (OpenSpec.ofChange fnExactLogFramesWrong)

/-- 'laws.FnLogFrames': WHATEVER THE INPUT: true; the input reads as it did. -/
def fnLogFramesSpec : ChangeSpec := { name := "fnLogFrames", fn := fun _ => fun
  | [d] => { results := [.lit (.bool true)], args := [d] }
  | _ => none }
def fnLogFramesRow : OpenClaim := { program := "ytfllacpmbcamkaa", sum := "18ca59a658467a6ef4e4e2556eacfd9797b73de61ac055dd4412aadae1a0412b", func := "loop.example/teagle/laws.FnLogFrames", spec := "fnLogFrames", recurses := true, apart := false }
def FnLogFramesSaid : Prop := fnLogFramesRow.holds Try.pinned (OpenSpec.ofChange fnLogFramesSpec)

/-- ITS FALSE NEIGHBOUR: 'it returns false'. Refute it at one input. -/
def fnLogFramesWrong : ChangeSpec := { name := "fnLogFrames", fn := fun _ => fun
  | [d] => { results := [.lit (.bool false)], args := [d] }
  | _ => none }
def FnLogFramesWrongFalsely : Prop := fnLogFramesRow.holds Try.pinned (OpenSpec.ofChange fnLogFramesWrong)

/-- 'laws.FnExactKindFirst': WHATEVER THE INPUT: true; the input reads as it did. -/
def fnExactKindFirstSpec : ChangeSpec := { name := "fnExactKindFirst", fn := fun _ => fun
  | [d] => { results := [.lit (.bool true)], args := [d] }
  | _ => none }
def fnExactKindFirstRow : OpenClaim := { program := "ytfllacpmbcamkaa", sum := "18ca59a658467a6ef4e4e2556eacfd9797b73de61ac055dd4412aadae1a0412b", func := "loop.example/teagle/laws.FnExactKindFirst", spec := "fnExactKindFirst", recurses := true, loops := true, apart := false }
def FnExactKindFirstSaid : Prop := fnExactKindFirstRow.holds Try.pinned (OpenSpec.ofChange fnExactKindFirstSpec)

/-- ITS FALSE NEIGHBOUR: 'it returns false'. Refute it at one input. -/
def fnExactKindFirstWrong : ChangeSpec := { name := "fnExactKindFirst", fn := fun _ => fun
  | [d] => { results := [.lit (.bool false)], args := [d] }
  | _ => none }
def FnExactKindFirstWrongFalsely : Prop := fnExactKindFirstRow.holds Try.pinned (OpenSpec.ofChange fnExactKindFirstWrong)

/-- 'laws.FnExactEventPack': WHATEVER THE INPUT: true; the input reads as it did. -/
def fnExactEventPackSpec : ChangeSpec := { name := "fnExactEventPack", fn := fun _ => fun
  | [d] => { results := [.lit (.bool true)], args := [d] }
  | _ => none }
def fnExactEventPackRow : OpenClaim := { program := "ytfllacpmbcamkaa", sum := "18ca59a658467a6ef4e4e2556eacfd9797b73de61ac055dd4412aadae1a0412b", func := "loop.example/teagle/laws.FnExactEventPack", spec := "fnExactEventPack", recurses := true, loops := true, apart := false }
def FnExactEventPackSaid : Prop := fnExactEventPackRow.holds Try.pinned (OpenSpec.ofChange fnExactEventPackSpec)

/-- ITS FALSE NEIGHBOUR: 'it returns false'. Refute it at one input. -/
def fnExactEventPackWrong : ChangeSpec := { name := "fnExactEventPack", fn := fun _ => fun
  | [d] => { results := [.lit (.bool false)], args := [d] }
  | _ => none }
def FnExactEventPackWrongFalsely : Prop := fnExactEventPackRow.holds Try.pinned (OpenSpec.ofChange fnExactEventPackWrong)

/- THE SECOND FORM. 'bulk': how many values and letters a reading holds, each counted each time it is reached (what is shared counts as often as it is met; a slice's spare places count too). A statement '..UptoSaid' is the law's where the arguments, and the package variables that the reading takes, are together of bulk at most 1048576: NARROWER than '..Said'. Prove '..Said' where nothing that the law and all that it calls make is longer than what came in: it says more and counts as full. Else prove '..UptoSaid'. A law counts once. -/
mutual
def uptoBulk {H : Type} : DataW H → Nat
  | .lit (.string bytes) => bytes.length + 1
  | .lit _ => 1
  | .nil => 1
  | .ptr d => uptoBulk d + 1
  | .slice elems spare => uptoBulkAll elems + uptoBulkAll spare + 1
  | .agg parts => uptoBulkAll parts + 1
  | .iface _ d => uptoBulk d + 1
  | .map entries => uptoBulkEntries entries + 1
  | .held _ => 1
def uptoBulkAll {H : Type} : List (DataW H) → Nat
  | [] => 0
  | d :: r => uptoBulk d + uptoBulkAll r
def uptoBulkEntries {H : Type} : List (Lit × DataW H) → Nat
  | [] => 0
  | x :: r => uptoBulkEntry x + uptoBulkEntries r
def uptoBulkEntry {H : Type} : Lit × DataW H → Nat
  | (.string bytes, d) => bytes.length + uptoBulk d + 1
  | (_, d) => uptoBulk d + 1
 end
def uptoSmall : (H : Type) → List (DataW H) → Bool := fun _ ds => decide (uptoBulkAll ds ≤ 1048576)
def OpenSpec.upto (s : _root_.Go.ChangeSpec) : _root_.Go.OpenSpec := { _root_.Go.OpenSpec.ofChange s with cond := some uptoSmall }

/-- 'laws.FnExactKindFits', WHERE WHAT IT READS IS OF BULK AT MOST 1048576: true; the input reads as it did. -/
def fnExactKindFitsUptoRow : OpenClaim := { program := "ytfllacpmbcamkaa", sum := "18ca59a658467a6ef4e4e2556eacfd9797b73de61ac055dd4412aadae1a0412b", func := "loop.example/teagle/laws.FnExactKindFits", spec := "fnExactKindFits", recurses := true, loops := true, apart := false, narrowed := true }
def FnExactKindFitsUptoSaid : Prop := fnExactKindFitsUptoRow.holds Try.pinned (OpenSpec.upto fnExactKindFitsSpec)

/-- 'laws.FnExactEventOk', WHERE WHAT IT READS IS OF BULK AT MOST 1048576: true; the input reads as it did. -/
def fnExactEventOkUptoRow : OpenClaim := { program := "ytfllacpmbcamkaa", sum := "18ca59a658467a6ef4e4e2556eacfd9797b73de61ac055dd4412aadae1a0412b", func := "loop.example/teagle/laws.FnExactEventOk", spec := "fnExactEventOk", recurses := true, loops := true, apart := false, narrowed := true }
def FnExactEventOkUptoSaid : Prop := fnExactEventOkUptoRow.holds Try.pinned (OpenSpec.upto fnExactEventOkSpec)

/-- 'laws.FnExactKindHas', WHERE WHAT IT READS IS OF BULK AT MOST 1048576: true; the input reads as it did. -/
def fnExactKindHasUptoRow : OpenClaim := { program := "ytfllacpmbcamkaa", sum := "18ca59a658467a6ef4e4e2556eacfd9797b73de61ac055dd4412aadae1a0412b", func := "loop.example/teagle/laws.FnExactKindHas", spec := "fnExactKindHas", recurses := true, loops := true, apart := false, narrowed := true }
def FnExactKindHasUptoSaid : Prop := fnExactKindHasUptoRow.holds Try.pinned (OpenSpec.upto fnExactKindHasSpec)

/-- 'laws.FnExactRecOk', WHERE WHAT IT READS IS OF BULK AT MOST 1048576: true; the input reads as it did. -/
def fnExactRecOkUptoRow : OpenClaim := { program := "ytfllacpmbcamkaa", sum := "18ca59a658467a6ef4e4e2556eacfd9797b73de61ac055dd4412aadae1a0412b", func := "loop.example/teagle/laws.FnExactRecOk", spec := "fnExactRecOk", unfollowed := true, recurses := true, loops := true, apart := false, narrowed := true }
def FnExactRecOkUptoSaid : Prop := fnExactRecOkUptoRow.holds Try.pinned (OpenSpec.upto fnExactRecOkSpec)

/-- 'laws.FnExactRecPack', WHERE WHAT IT READS IS OF BULK AT MOST 1048576: true; the input reads as it did. -/
def fnExactRecPackUptoRow : OpenClaim := { program := "ytfllacpmbcamkaa", sum := "18ca59a658467a6ef4e4e2556eacfd9797b73de61ac055dd4412aadae1a0412b", func := "loop.example/teagle/laws.FnExactRecPack", spec := "fnExactRecPack", unfollowed := true, recurses := true, loops := true, apart := false, narrowed := true }
def FnExactRecPackUptoSaid : Prop := fnExactRecPackUptoRow.holds Try.pinned (OpenSpec.upto fnExactRecPackSpec)

/-- 'laws.FnExactLogPlanOk', WHERE WHAT IT READS IS OF BULK AT MOST 1048576: true; the input reads as it did. -/
def fnExactLogPlanOkUptoRow : OpenClaim := { program := "ytfllacpmbcamkaa", sum := "18ca59a658467a6ef4e4e2556eacfd9797b73de61ac055dd4412aadae1a0412b", func := "loop.example/teagle/laws.FnExactLogPlanOk", spec := "fnExactLogPlanOk", apart := false, narrowed := true }
def FnExactLogPlanOkUptoSaid : Prop := fnExactLogPlanOkUptoRow.holds Try.pinned (OpenSpec.upto fnExactLogPlanOkSpec)

/-- 'laws.FnExactLogFrames', WHERE WHAT IT READS IS OF BULK AT MOST 1048576: true; the input reads as it did. -/
def fnExactLogFramesUptoRow : OpenClaim := { program := "ytfllacpmbcamkaa", sum := "18ca59a658467a6ef4e4e2556eacfd9797b73de61ac055dd4412aadae1a0412b", func := "loop.example/teagle/laws.FnExactLogFrames", spec := "fnExactLogFrames", apart := false, narrowed := true }
def FnExactLogFramesUptoSaid : Prop := fnExactLogFramesUptoRow.holds Try.pinned (OpenSpec.upto fnExactLogFramesSpec)

/-- 'laws.FnLogFrames', WHERE WHAT IT READS IS OF BULK AT MOST 1048576: true; the input reads as it did. -/
def fnLogFramesUptoRow : OpenClaim := { program := "ytfllacpmbcamkaa", sum := "18ca59a658467a6ef4e4e2556eacfd9797b73de61ac055dd4412aadae1a0412b", func := "loop.example/teagle/laws.FnLogFrames", spec := "fnLogFrames", recurses := true, apart := false, narrowed := true }
def FnLogFramesUptoSaid : Prop := fnLogFramesUptoRow.holds Try.pinned (OpenSpec.upto fnLogFramesSpec)

/-- 'laws.FnExactKindFirst', WHERE WHAT IT READS IS OF BULK AT MOST 1048576: true; the input reads as it did. -/
def fnExactKindFirstUptoRow : OpenClaim := { program := "ytfllacpmbcamkaa", sum := "18ca59a658467a6ef4e4e2556eacfd9797b73de61ac055dd4412aadae1a0412b", func := "loop.example/teagle/laws.FnExactKindFirst", spec := "fnExactKindFirst", recurses := true, loops := true, apart := false, narrowed := true }
def FnExactKindFirstUptoSaid : Prop := fnExactKindFirstUptoRow.holds Try.pinned (OpenSpec.upto fnExactKindFirstSpec)

/-- 'laws.FnExactEventPack', WHERE WHAT IT READS IS OF BULK AT MOST 1048576: true; the input reads as it did. -/
def fnExactEventPackUptoRow : OpenClaim := { program := "ytfllacpmbcamkaa", sum := "18ca59a658467a6ef4e4e2556eacfd9797b73de61ac055dd4412aadae1a0412b", func := "loop.example/teagle/laws.FnExactEventPack", spec := "fnExactEventPack", recurses := true, loops := true, apart := false, narrowed := true }
def FnExactEventPackUptoSaid : Prop := fnExactEventPackUptoRow.holds Try.pinned (OpenSpec.upto fnExactEventPackSpec)

end Rows
end Go.Proofs.Ytfllacpmbcamkaa
