/-
  No cell of these rows narrows 'for every input' (looked for: loops, veiled, ifaces, maps, wideKeys, modest, calm, conditions, laid).
  DERIVED. THE GIVEN ROWS OF THIS SEAT. 12 by the template 'for every input the law returns true; each argument reads behind the call as it read before'; 0 by the template 'total and deterministic' (their statements: YtbjblchhenmgjaaTotals.lean).
  GIVEN WITH THE SEED: the statements are not yours to turn. If you find one false, say at which input.
  Laid BY PROGRAM, IN A SANDBOX (cutbox-rows.mjs): the forced cells as the released guide's own fill.sh prints them over the translation bce75f01e1f4bb3e… (all of the seat's roots in one cut). By AI agents, Wed Nov 11 2026. No macro, syntax, notation, axiom, sorry.
-/
import Derived.Test.YtbjblchhenmgjaaChecked
import GoSem.Claim
import GoSem.ClaimJoined
import GoSem.ClaimMapViews
import Derived.JoinedTies
import Derived.KernelRfl
namespace Go.Proofs.Ytbjblchhenmgjaa
/- THE CELL 'sum', in the pinned program and in every row, IS THE sha256 OF THE DUMP (.gsa) THAT YtbjblchhenmgjaaProg.lean LOADS. Nothing in Lean hashes anything: it is a label: what it is worth is what the hold of that sum in a sandbox is worth. -/
noncomputable def Try.pinned : Pinned := { name := "ytbjblchhenmgjaa", sum := "bce75f01e1f4bb3ec879d8d42df71d4f7e13039a1c4d879bad7908c3b344211f", checked := Try.checked }
namespace Rows
def none {H : Type} : Left H := { results := [], args := [] }

/-- 'laws.FnExactEventUnpack': WHATEVER THE INPUT: true; the input reads as it did. -/
def fnExactEventUnpackSpec : ChangeSpec := { name := "fnExactEventUnpack", fn := fun _ => fun
  | [d] => { results := [.lit (.bool true)], args := [d] }
  | _ => none }
def fnExactEventUnpackRow : OpenClaim := { program := "ytbjblchhenmgjaa", sum := "bce75f01e1f4bb3ec879d8d42df71d4f7e13039a1c4d879bad7908c3b344211f", func := "loop.example/teagle/laws.FnExactEventUnpack", spec := "fnExactEventUnpack", recurses := true, apart := false }
def FnExactEventUnpackSaid : Prop := fnExactEventUnpackRow.holds Try.pinned (OpenSpec.ofChange fnExactEventUnpackSpec)

/-- ITS FALSE NEIGHBOUR: 'it returns false'. Refute it at one input. -/
def fnExactEventUnpackWrong : ChangeSpec := { name := "fnExactEventUnpack", fn := fun _ => fun
  | [d] => { results := [.lit (.bool false)], args := [d] }
  | _ => none }
def FnExactEventUnpackWrongFalsely : Prop := fnExactEventUnpackRow.holds Try.pinned (OpenSpec.ofChange fnExactEventUnpackWrong)

/-- 'laws.FnExactRecUnpack': WHATEVER THE INPUT: true; the input reads as it did. -/
def fnExactRecUnpackSpec : ChangeSpec := { name := "fnExactRecUnpack", fn := fun _ => fun
  | [d1, d2] => { results := [.lit (.bool true)], args := [d1, d2] }
  | _ => none }
def fnExactRecUnpackRow : OpenClaim := { program := "ytbjblchhenmgjaa", sum := "bce75f01e1f4bb3ec879d8d42df71d4f7e13039a1c4d879bad7908c3b344211f", func := "loop.example/teagle/laws.FnExactRecUnpack", spec := "fnExactRecUnpack", unfollowed := true, recurses := true, apart := false }
def FnExactRecUnpackSaid : Prop := fnExactRecUnpackRow.holds Try.pinned (OpenSpec.ofChange fnExactRecUnpackSpec)

/-- ITS FALSE NEIGHBOUR: 'it returns false'. Refute it at one input. -/
def fnExactRecUnpackWrong : ChangeSpec := { name := "fnExactRecUnpack", fn := fun _ => fun
  | [d1, d2] => { results := [.lit (.bool false)], args := [d1, d2] }
  | _ => none }
def FnExactRecUnpackWrongFalsely : Prop := fnExactRecUnpackRow.holds Try.pinned (OpenSpec.ofChange fnExactRecUnpackWrong)

/-- 'laws.FnExactKindRead': WHATEVER THE INPUT: true; the input reads as it did. -/
def fnExactKindReadSpec : ChangeSpec := { name := "fnExactKindRead", fn := fun _ => fun
  | [d] => { results := [.lit (.bool true)], args := [d] }
  | _ => none }
def fnExactKindReadRow : OpenClaim := { program := "ytbjblchhenmgjaa", sum := "bce75f01e1f4bb3ec879d8d42df71d4f7e13039a1c4d879bad7908c3b344211f", func := "loop.example/teagle/laws.FnExactKindRead", spec := "fnExactKindRead", inPlace := ["internal/bytealg.IndexByteString", "internal/bytealg.IndexString", "internal/abi.NoEscape"], unfollowed := true, recurses := true, named := ["internal/bytealg.MaxLen"], apart := false }
def FnExactKindReadSaid : Prop := fnExactKindReadRow.holds Try.pinned (OpenSpec.ofChange fnExactKindReadSpec)

/-- ITS FALSE NEIGHBOUR: 'it returns false'. Refute it at one input. -/
def fnExactKindReadWrong : ChangeSpec := { name := "fnExactKindRead", fn := fun _ => fun
  | [d] => { results := [.lit (.bool false)], args := [d] }
  | _ => none }
def FnExactKindReadWrongFalsely : Prop := fnExactKindReadRow.holds Try.pinned (OpenSpec.ofChange fnExactKindReadWrong)

/-- 'laws.FnLogFrames': WHATEVER THE INPUT: true; the input reads as it did. -/
def fnLogFramesSpec : ChangeSpec := { name := "fnLogFrames", fn := fun _ => fun
  | [d] => { results := [.lit (.bool true)], args := [d] }
  | _ => none }
def fnLogFramesRow : OpenClaim := { program := "ytbjblchhenmgjaa", sum := "bce75f01e1f4bb3ec879d8d42df71d4f7e13039a1c4d879bad7908c3b344211f", func := "loop.example/teagle/laws.FnLogFrames", spec := "fnLogFrames", recurses := true, apart := false }
def FnLogFramesSaid : Prop := fnLogFramesRow.holds Try.pinned (OpenSpec.ofChange fnLogFramesSpec)

/-- ITS FALSE NEIGHBOUR: 'it returns false'. Refute it at one input. -/
def fnLogFramesWrong : ChangeSpec := { name := "fnLogFrames", fn := fun _ => fun
  | [d] => { results := [.lit (.bool false)], args := [d] }
  | _ => none }
def FnLogFramesWrongFalsely : Prop := fnLogFramesRow.holds Try.pinned (OpenSpec.ofChange fnLogFramesWrong)

/-- 'laws.FnKindText': WHATEVER THE INPUT: true; the input reads as it did. -/
def fnKindTextSpec : ChangeSpec := { name := "fnKindText", fn := fun _ => fun
  | [d] => { results := [.lit (.bool true)], args := [d] }
  | _ => none }
def fnKindTextRow : OpenClaim := { program := "ytbjblchhenmgjaa", sum := "bce75f01e1f4bb3ec879d8d42df71d4f7e13039a1c4d879bad7908c3b344211f", func := "loop.example/teagle/laws.FnKindText", spec := "fnKindText", inPlace := ["internal/abi.NoEscape", "internal/bytealg.IndexByteString", "internal/bytealg.IndexString"], unfollowed := true, recurses := true, named := ["internal/bytealg.MaxLen"], apart := false }
def FnKindTextSaid : Prop := fnKindTextRow.holds Try.pinned (OpenSpec.ofChange fnKindTextSpec)

/-- ITS FALSE NEIGHBOUR: 'it returns false'. Refute it at one input. -/
def fnKindTextWrong : ChangeSpec := { name := "fnKindText", fn := fun _ => fun
  | [d] => { results := [.lit (.bool false)], args := [d] }
  | _ => none }
def FnKindTextWrongFalsely : Prop := fnKindTextRow.holds Try.pinned (OpenSpec.ofChange fnKindTextWrong)

/-- 'laws.FnKindFirst': WHATEVER THE INPUT: true; the input reads as it did. -/
def fnKindFirstSpec : ChangeSpec := { name := "fnKindFirst", fn := fun _ => fun
  | [d] => { results := [.lit (.bool true)], args := [d] }
  | _ => none }
def fnKindFirstRow : OpenClaim := { program := "ytbjblchhenmgjaa", sum := "bce75f01e1f4bb3ec879d8d42df71d4f7e13039a1c4d879bad7908c3b344211f", func := "loop.example/teagle/laws.FnKindFirst", spec := "fnKindFirst", recurses := true, apart := false }
def FnKindFirstSaid : Prop := fnKindFirstRow.holds Try.pinned (OpenSpec.ofChange fnKindFirstSpec)

/-- ITS FALSE NEIGHBOUR: 'it returns false'. Refute it at one input. -/
def fnKindFirstWrong : ChangeSpec := { name := "fnKindFirst", fn := fun _ => fun
  | [d] => { results := [.lit (.bool false)], args := [d] }
  | _ => none }
def FnKindFirstWrongFalsely : Prop := fnKindFirstRow.holds Try.pinned (OpenSpec.ofChange fnKindFirstWrong)

/-- 'laws.FnCrewRun': WHATEVER THE INPUT: true; the input reads as it did. -/
def fnCrewRunSpec : ChangeSpec := { name := "fnCrewRun", fn := fun _ => fun
  | [d1, d2] => { results := [.lit (.bool true)], args := [d1, d2] }
  | _ => none }
def fnCrewRunRow : OpenClaim := { program := "ytbjblchhenmgjaa", sum := "bce75f01e1f4bb3ec879d8d42df71d4f7e13039a1c4d879bad7908c3b344211f", func := "loop.example/teagle/laws.FnCrewRun", spec := "fnCrewRun", unfollowed := true, recurses := true, apart := false }
def FnCrewRunSaid : Prop := fnCrewRunRow.holds Try.pinned (OpenSpec.ofChange fnCrewRunSpec)

/-- ITS FALSE NEIGHBOUR: 'it returns false'. Refute it at one input. -/
def fnCrewRunWrong : ChangeSpec := { name := "fnCrewRun", fn := fun _ => fun
  | [d1, d2] => { results := [.lit (.bool false)], args := [d1, d2] }
  | _ => none }
def FnCrewRunWrongFalsely : Prop := fnCrewRunRow.holds Try.pinned (OpenSpec.ofChange fnCrewRunWrong)

/-- 'laws.FnDiskCut': WHATEVER THE INPUT: true; the input reads as it did. -/
def fnDiskCutSpec : ChangeSpec := { name := "fnDiskCut", fn := fun _ => fun
  | [d1, d2] => { results := [.lit (.bool true)], args := [d1, d2] }
  | _ => none }
def fnDiskCutRow : OpenClaim := { program := "ytbjblchhenmgjaa", sum := "bce75f01e1f4bb3ec879d8d42df71d4f7e13039a1c4d879bad7908c3b344211f", func := "loop.example/teagle/laws.FnDiskCut", spec := "fnDiskCut", unfollowed := true, recurses := true, apart := false }
def FnDiskCutSaid : Prop := fnDiskCutRow.holds Try.pinned (OpenSpec.ofChange fnDiskCutSpec)

/-- ITS FALSE NEIGHBOUR: 'it returns false'. Refute it at one input. -/
def fnDiskCutWrong : ChangeSpec := { name := "fnDiskCut", fn := fun _ => fun
  | [d1, d2] => { results := [.lit (.bool false)], args := [d1, d2] }
  | _ => none }
def FnDiskCutWrongFalsely : Prop := fnDiskCutRow.holds Try.pinned (OpenSpec.ofChange fnDiskCutWrong)

/-- 'laws.FnExactCrewOk': WHATEVER THE INPUT: true; the input reads as it did. -/
def fnExactCrewOkSpec : ChangeSpec := { name := "fnExactCrewOk", fn := fun _ => fun
  | [d] => { results := [.lit (.bool true)], args := [d] }
  | _ => none }
def fnExactCrewOkRow : OpenClaim := { program := "ytbjblchhenmgjaa", sum := "bce75f01e1f4bb3ec879d8d42df71d4f7e13039a1c4d879bad7908c3b344211f", func := "loop.example/teagle/laws.FnExactCrewOk", spec := "fnExactCrewOk", unfollowed := true, recurses := true, apart := false }
def FnExactCrewOkSaid : Prop := fnExactCrewOkRow.holds Try.pinned (OpenSpec.ofChange fnExactCrewOkSpec)

/-- ITS FALSE NEIGHBOUR: 'it returns false'. Refute it at one input. -/
def fnExactCrewOkWrong : ChangeSpec := { name := "fnExactCrewOk", fn := fun _ => fun
  | [d] => { results := [.lit (.bool false)], args := [d] }
  | _ => none }
def FnExactCrewOkWrongFalsely : Prop := fnExactCrewOkRow.holds Try.pinned (OpenSpec.ofChange fnExactCrewOkWrong)

/-- 'laws.FnExactCrewEnded': WHATEVER THE INPUT: true; the input reads as it did. -/
def fnExactCrewEndedSpec : ChangeSpec := { name := "fnExactCrewEnded", fn := fun _ => fun
  | [d] => { results := [.lit (.bool true)], args := [d] }
  | _ => none }
def fnExactCrewEndedRow : OpenClaim := { program := "ytbjblchhenmgjaa", sum := "bce75f01e1f4bb3ec879d8d42df71d4f7e13039a1c4d879bad7908c3b344211f", func := "loop.example/teagle/laws.FnExactCrewEnded", spec := "fnExactCrewEnded", unfollowed := true, recurses := true, apart := false }
def FnExactCrewEndedSaid : Prop := fnExactCrewEndedRow.holds Try.pinned (OpenSpec.ofChange fnExactCrewEndedSpec)

/-- ITS FALSE NEIGHBOUR: 'it returns false'. Refute it at one input. -/
def fnExactCrewEndedWrong : ChangeSpec := { name := "fnExactCrewEnded", fn := fun _ => fun
  | [d] => { results := [.lit (.bool false)], args := [d] }
  | _ => none }
def FnExactCrewEndedWrongFalsely : Prop := fnExactCrewEndedRow.holds Try.pinned (OpenSpec.ofChange fnExactCrewEndedWrong)

/-- 'laws.FnExactCrewLeft': WHATEVER THE INPUT: true; the input reads as it did. -/
def fnExactCrewLeftSpec : ChangeSpec := { name := "fnExactCrewLeft", fn := fun _ => fun
  | [d] => { results := [.lit (.bool true)], args := [d] }
  | _ => none }
def fnExactCrewLeftRow : OpenClaim := { program := "ytbjblchhenmgjaa", sum := "bce75f01e1f4bb3ec879d8d42df71d4f7e13039a1c4d879bad7908c3b344211f", func := "loop.example/teagle/laws.FnExactCrewLeft", spec := "fnExactCrewLeft", unfollowed := true, recurses := true, apart := false }
def FnExactCrewLeftSaid : Prop := fnExactCrewLeftRow.holds Try.pinned (OpenSpec.ofChange fnExactCrewLeftSpec)

/-- ITS FALSE NEIGHBOUR: 'it returns false'. Refute it at one input. -/
def fnExactCrewLeftWrong : ChangeSpec := { name := "fnExactCrewLeft", fn := fun _ => fun
  | [d] => { results := [.lit (.bool false)], args := [d] }
  | _ => none }
def FnExactCrewLeftWrongFalsely : Prop := fnExactCrewLeftRow.holds Try.pinned (OpenSpec.ofChange fnExactCrewLeftWrong)

/-- 'laws.FnCrewStart': WHATEVER THE INPUT: true; the input reads as it did. -/
def fnCrewStartSpec : ChangeSpec := { name := "fnCrewStart", fn := fun _ => fun
  | [d] => { results := [.lit (.bool true)], args := [d] }
  | _ => none }
def fnCrewStartRow : OpenClaim := { program := "ytbjblchhenmgjaa", sum := "bce75f01e1f4bb3ec879d8d42df71d4f7e13039a1c4d879bad7908c3b344211f", func := "loop.example/teagle/laws.FnCrewStart", spec := "fnCrewStart", unfollowed := true, recurses := true, apart := false }
def FnCrewStartSaid : Prop := fnCrewStartRow.holds Try.pinned (OpenSpec.ofChange fnCrewStartSpec)

/-- ITS FALSE NEIGHBOUR: 'it returns false'. Refute it at one input. -/
def fnCrewStartWrong : ChangeSpec := { name := "fnCrewStart", fn := fun _ => fun
  | [d] => { results := [.lit (.bool false)], args := [d] }
  | _ => none }
def FnCrewStartWrongFalsely : Prop := fnCrewStartRow.holds Try.pinned (OpenSpec.ofChange fnCrewStartWrong)

/- THE SECOND FORM. 'bulk': how many values and letters a reading holds, each counted each time it is reached (what is shared counts as often as it is met; a slice's spare places count too). A statement '..UptoSaid' is the law's where the arguments, and the package variables that the reading takes, are together of bulk at most 1048576: NARROWER than '..Said'. Prove '..Said' where nothing that the law and all that it calls make is longer than what came in: it says more and counts as full. Else prove '..UptoSaid'. A law counts once. -/
mutual
def uptoBulk {H : Type} : DataW H → Nat
  | .lit (.string bytes) => bytes.length + 1
  | .lit _ => 1
  | .nil => 1
  | .ptr d => uptoBulk d + 1
  | .slice elems spare => uptoBulkAll elems + uptoBulkAll spare + 1
  | .agg parts => uptoBulkAll parts + 1
  | .iface _ d => uptoBulk d + 1
  | .map entries => uptoBulkEntries entries + 1
  | .held _ => 1
def uptoBulkAll {H : Type} : List (DataW H) → Nat
  | [] => 0
  | d :: r => uptoBulk d + uptoBulkAll r
def uptoBulkEntries {H : Type} : List (Lit × DataW H) → Nat
  | [] => 0
  | x :: r => uptoBulkEntry x + uptoBulkEntries r
def uptoBulkEntry {H : Type} : Lit × DataW H → Nat
  | (.string bytes, d) => bytes.length + uptoBulk d + 1
  | (_, d) => uptoBulk d + 1
 end
def uptoSmall : (H : Type) → List (DataW H) → Bool := fun _ ds => decide (uptoBulkAll ds ≤ 1048576)
def OpenSpec.upto (s : _root_.Go.ChangeSpec) : _root_.Go.OpenSpec := { _root_.Go.OpenSpec.ofChange s with cond := some uptoSmall }

/-- 'laws.FnExactEventUnpack', WHERE WHAT IT READS IS OF BULK AT MOST 1048576: true; the input reads as it did. -/
def fnExactEventUnpackUptoRow : OpenClaim := { program := "ytbjblchhenmgjaa", sum := "bce75f01e1f4bb3ec879d8d42df71d4f7e13039a1c4d879bad7908c3b344211f", func := "loop.example/teagle/laws.FnExactEventUnpack", spec := "fnExactEventUnpack", recurses := true, apart := false, narrowed := true }
def FnExactEventUnpackUptoSaid : Prop := fnExactEventUnpackUptoRow.holds Try.pinned (OpenSpec.upto fnExactEventUnpackSpec)

/-- 'laws.FnExactRecUnpack', WHERE WHAT IT READS IS OF BULK AT MOST 1048576: true; the input reads as it did. -/
def fnExactRecUnpackUptoRow : OpenClaim := { program := "ytbjblchhenmgjaa", sum := "bce75f01e1f4bb3ec879d8d42df71d4f7e13039a1c4d879bad7908c3b344211f", func := "loop.example/teagle/laws.FnExactRecUnpack", spec := "fnExactRecUnpack", unfollowed := true, recurses := true, apart := false, narrowed := true }
def FnExactRecUnpackUptoSaid : Prop := fnExactRecUnpackUptoRow.holds Try.pinned (OpenSpec.upto fnExactRecUnpackSpec)

/-- 'laws.FnExactKindRead', WHERE WHAT IT READS IS OF BULK AT MOST 1048576: true; the input reads as it did. -/
def fnExactKindReadUptoRow : OpenClaim := { program := "ytbjblchhenmgjaa", sum := "bce75f01e1f4bb3ec879d8d42df71d4f7e13039a1c4d879bad7908c3b344211f", func := "loop.example/teagle/laws.FnExactKindRead", spec := "fnExactKindRead", inPlace := ["internal/bytealg.IndexByteString", "internal/bytealg.IndexString", "internal/abi.NoEscape"], unfollowed := true, recurses := true, named := ["internal/bytealg.MaxLen"], apart := false, narrowed := true }
def FnExactKindReadUptoSaid : Prop := fnExactKindReadUptoRow.holds Try.pinned (OpenSpec.upto fnExactKindReadSpec)

/-- 'laws.FnLogFrames', WHERE WHAT IT READS IS OF BULK AT MOST 1048576: true; the input reads as it did. -/
def fnLogFramesUptoRow : OpenClaim := { program := "ytbjblchhenmgjaa", sum := "bce75f01e1f4bb3ec879d8d42df71d4f7e13039a1c4d879bad7908c3b344211f", func := "loop.example/teagle/laws.FnLogFrames", spec := "fnLogFrames", recurses := true, apart := false, narrowed := true }
def FnLogFramesUptoSaid : Prop := fnLogFramesUptoRow.holds Try.pinned (OpenSpec.upto fnLogFramesSpec)

/-- 'laws.FnKindText', WHERE WHAT IT READS IS OF BULK AT MOST 1048576: true; the input reads as it did. -/
def fnKindTextUptoRow : OpenClaim := { program := "ytbjblchhenmgjaa", sum := "bce75f01e1f4bb3ec879d8d42df71d4f7e13039a1c4d879bad7908c3b344211f", func := "loop.example/teagle/laws.FnKindText", spec := "fnKindText", inPlace := ["internal/abi.NoEscape", "internal/bytealg.IndexByteString", "internal/bytealg.IndexString"], unfollowed := true, recurses := true, named := ["internal/bytealg.MaxLen"], apart := false, narrowed := true }
def FnKindTextUptoSaid : Prop := fnKindTextUptoRow.holds Try.pinned (OpenSpec.upto fnKindTextSpec)

/-- 'laws.FnKindFirst', WHERE WHAT IT READS IS OF BULK AT MOST 1048576: true; the input reads as it did. -/
def fnKindFirstUptoRow : OpenClaim := { program := "ytbjblchhenmgjaa", sum := "bce75f01e1f4bb3ec879d8d42df71d4f7e13039a1c4d879bad7908c3b344211f", func := "loop.example/teagle/laws.FnKindFirst", spec := "fnKindFirst", recurses := true, apart := false, narrowed := true }
def FnKindFirstUptoSaid : Prop := fnKindFirstUptoRow.holds Try.pinned (OpenSpec.upto fnKindFirstSpec)

/-- 'laws.FnCrewRun', WHERE WHAT IT READS IS OF BULK AT MOST 1048576: true; the input reads as it did. -/
def fnCrewRunUptoRow : OpenClaim := { program := "ytbjblchhenmgjaa", sum := "bce75f01e1f4bb3ec879d8d42df71d4f7e13039a1c4d879bad7908c3b344211f", func := "loop.example/teagle/laws.FnCrewRun", spec := "fnCrewRun", unfollowed := true, recurses := true, apart := false, narrowed := true }
def FnCrewRunUptoSaid : Prop := fnCrewRunUptoRow.holds Try.pinned (OpenSpec.upto fnCrewRunSpec)

/-- 'laws.FnDiskCut', WHERE WHAT IT READS IS OF BULK AT MOST 1048576: true; the input reads as it did. -/
def fnDiskCutUptoRow : OpenClaim := { program := "ytbjblchhenmgjaa", sum := "bce75f01e1f4bb3ec879d8d42df71d4f7e13039a1c4d879bad7908c3b344211f", func := "loop.example/teagle/laws.FnDiskCut", spec := "fnDiskCut", unfollowed := true, recurses := true, apart := false, narrowed := true }
def FnDiskCutUptoSaid : Prop := fnDiskCutUptoRow.holds Try.pinned (OpenSpec.upto fnDiskCutSpec)

/-- 'laws.FnExactCrewOk', WHERE WHAT IT READS IS OF BULK AT MOST 1048576: true; the input reads as it did. -/
def fnExactCrewOkUptoRow : OpenClaim := { program := "ytbjblchhenmgjaa", sum := "bce75f01e1f4bb3ec879d8d42df71d4f7e13039a1c4d879bad7908c3b344211f", func := "loop.example/teagle/laws.FnExactCrewOk", spec := "fnExactCrewOk", unfollowed := true, recurses := true, apart := false, narrowed := true }
def FnExactCrewOkUptoSaid : Prop := fnExactCrewOkUptoRow.holds Try.pinned (OpenSpec.upto fnExactCrewOkSpec)

/-- 'laws.FnExactCrewEnded', WHERE WHAT IT READS IS OF BULK AT MOST 1048576: true; the input reads as it did. -/
def fnExactCrewEndedUptoRow : OpenClaim := { program := "ytbjblchhenmgjaa", sum := "bce75f01e1f4bb3ec879d8d42df71d4f7e13039a1c4d879bad7908c3b344211f", func := "loop.example/teagle/laws.FnExactCrewEnded", spec := "fnExactCrewEnded", unfollowed := true, recurses := true, apart := false, narrowed := true }
def FnExactCrewEndedUptoSaid : Prop := fnExactCrewEndedUptoRow.holds Try.pinned (OpenSpec.upto fnExactCrewEndedSpec)

/-- 'laws.FnExactCrewLeft', WHERE WHAT IT READS IS OF BULK AT MOST 1048576: true; the input reads as it did. -/
def fnExactCrewLeftUptoRow : OpenClaim := { program := "ytbjblchhenmgjaa", sum := "bce75f01e1f4bb3ec879d8d42df71d4f7e13039a1c4d879bad7908c3b344211f", func := "loop.example/teagle/laws.FnExactCrewLeft", spec := "fnExactCrewLeft", unfollowed := true, recurses := true, apart := false, narrowed := true }
def FnExactCrewLeftUptoSaid : Prop := fnExactCrewLeftUptoRow.holds Try.pinned (OpenSpec.upto fnExactCrewLeftSpec)

/-- 'laws.FnCrewStart', WHERE WHAT IT READS IS OF BULK AT MOST 1048576: true; the input reads as it did. -/
def fnCrewStartUptoRow : OpenClaim := { program := "ytbjblchhenmgjaa", sum := "bce75f01e1f4bb3ec879d8d42df71d4f7e13039a1c4d879bad7908c3b344211f", func := "loop.example/teagle/laws.FnCrewStart", spec := "fnCrewStart", unfollowed := true, recurses := true, apart := false, narrowed := true }
def FnCrewStartUptoSaid : Prop := fnCrewStartUptoRow.holds Try.pinned (OpenSpec.upto fnCrewStartSpec)

end Rows
end Go.Proofs.Ytbjblchhenmgjaa
