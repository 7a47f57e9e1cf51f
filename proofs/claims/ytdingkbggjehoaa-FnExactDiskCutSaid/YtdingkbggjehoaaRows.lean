/-
  NARROWER THAN 'FOR EVERY INPUT', by the rows' own cells (each row's printed sentence says how): FnExactKindFits: loops · FnExactKindFirst: loops.
  DERIVED. THE GIVEN ROWS OF THIS SEAT. 12 by the template 'for every input the law returns true; each argument reads behind the call as it read before'; 0 by the template 'total and deterministic' (their statements: YtdingkbggjehoaaTotals.lean).
  GIVEN WITH THE SEED: the statements are not yours to turn. If you find one false, say at which input.
  Laid BY PROGRAM, IN A SANDBOX (cutbox-rows.mjs): the forced cells as the released guide's own fill.sh prints them over the translation 208409dd19ded7a3… (all of the seat's roots in one cut). By AI agents, Wed Nov 11 2026. No macro, syntax, notation, axiom, sorry.
-/
import Derived.Test.YtdingkbggjehoaaChecked
import GoSem.Claim
import GoSem.ClaimJoined
import GoSem.ClaimMapViews
import Derived.JoinedTies
import Derived.KernelRfl
namespace Go.Proofs.Ytdingkbggjehoaa
/- THE CELL 'sum', in the pinned program and in every row, IS THE sha256 OF THE DUMP (.gsa) THAT YtdingkbggjehoaaProg.lean LOADS. Nothing in Lean hashes anything: it is a label: what it is worth is what the hold of that sum in a sandbox is worth. -/
noncomputable def Try.pinned : Pinned := { name := "ytdingkbggjehoaa", sum := "208409dd19ded7a36463f96a67b4f642753ac9358938c0a7f44d84f131852ce5", checked := Try.checked }
namespace Rows
def none {H : Type} : Left H := { results := [], args := [] }

/-- 'laws.FnExactKindFits': WHATEVER THE INPUT: true; the input reads as it did. -/
def fnExactKindFitsSpec : ChangeSpec := { name := "fnExactKindFits", fn := fun _ => fun
  | [d1, d2] => { results := [.lit (.bool true)], args := [d1, d2] }
  | _ => none }
def fnExactKindFitsRow : OpenClaim := { program := "ytdingkbggjehoaa", sum := "208409dd19ded7a36463f96a67b4f642753ac9358938c0a7f44d84f131852ce5", func := "loop.example/teagle/laws.FnExactKindFits", spec := "fnExactKindFits", recurses := true, loops := true, apart := false }
def FnExactKindFitsSaid : Prop := fnExactKindFitsRow.holds Try.pinned (OpenSpec.ofChange fnExactKindFitsSpec)

/-- ITS FALSE NEIGHBOUR: 'it returns false'. Refute it at one input. -/
def fnExactKindFitsWrong : ChangeSpec := { name := "fnExactKindFits", fn := fun _ => fun
  | [d1, d2] => { results := [.lit (.bool false)], args := [d1, d2] }
  | _ => none }
def FnExactKindFitsWrongFalsely : Prop := fnExactKindFitsRow.holds Try.pinned (OpenSpec.ofChange fnExactKindFitsWrong)

/-- 'laws.FnExactKindFirst': WHATEVER THE INPUT: true; the input reads as it did. -/
def fnExactKindFirstSpec : ChangeSpec := { name := "fnExactKindFirst", fn := fun _ => fun
  | [d] => { results := [.lit (.bool true)], args := [d] }
  | _ => none }
def fnExactKindFirstRow : OpenClaim := { program := "ytdingkbggjehoaa", sum := "208409dd19ded7a36463f96a67b4f642753ac9358938c0a7f44d84f131852ce5", func := "loop.example/teagle/laws.FnExactKindFirst", spec := "fnExactKindFirst", recurses := true, loops := true, apart := false }
def FnExactKindFirstSaid : Prop := fnExactKindFirstRow.holds Try.pinned (OpenSpec.ofChange fnExactKindFirstSpec)

/-- ITS FALSE NEIGHBOUR: 'it returns false'. Refute it at one input. -/
def fnExactKindFirstWrong : ChangeSpec := { name := "fnExactKindFirst", fn := fun _ => fun
  | [d] => { results := [.lit (.bool false)], args := [d] }
  | _ => none }
def FnExactKindFirstWrongFalsely : Prop := fnExactKindFirstRow.holds Try.pinned (OpenSpec.ofChange fnExactKindFirstWrong)

/-- 'laws.FnKindFirst': WHATEVER THE INPUT: true; the input reads as it did. -/
def fnKindFirstSpec : ChangeSpec := { name := "fnKindFirst", fn := fun _ => fun
  | [d] => { results := [.lit (.bool true)], args := [d] }
  | _ => none }
def fnKindFirstRow : OpenClaim := { program := "ytdingkbggjehoaa", sum := "208409dd19ded7a36463f96a67b4f642753ac9358938c0a7f44d84f131852ce5", func := "loop.example/teagle/laws.FnKindFirst", spec := "fnKindFirst", recurses := true, apart := false }
def FnKindFirstSaid : Prop := fnKindFirstRow.holds Try.pinned (OpenSpec.ofChange fnKindFirstSpec)

/-- ITS FALSE NEIGHBOUR: 'it returns false'. Refute it at one input. -/
def fnKindFirstWrong : ChangeSpec := { name := "fnKindFirst", fn := fun _ => fun
  | [d] => { results := [.lit (.bool false)], args := [d] }
  | _ => none }
def FnKindFirstWrongFalsely : Prop := fnKindFirstRow.holds Try.pinned (OpenSpec.ofChange fnKindFirstWrong)

/-- 'laws.FnExactCrewStart': WHATEVER THE INPUT: true; the input reads as it did. -/
def fnExactCrewStartSpec : ChangeSpec := { name := "fnExactCrewStart", fn := fun _ => fun
  | [d1, d2, d3] => { results := [.lit (.bool true)], args := [d1, d2, d3] }
  | _ => none }
def fnExactCrewStartRow : OpenClaim := { program := "ytdingkbggjehoaa", sum := "208409dd19ded7a36463f96a67b4f642753ac9358938c0a7f44d84f131852ce5", func := "loop.example/teagle/laws.FnExactCrewStart", spec := "fnExactCrewStart", apart := false }
def FnExactCrewStartSaid : Prop := fnExactCrewStartRow.holds Try.pinned (OpenSpec.ofChange fnExactCrewStartSpec)

/-- ITS FALSE NEIGHBOUR: 'it returns false'. Refute it at one input. -/
def fnExactCrewStartWrong : ChangeSpec := { name := "fnExactCrewStart", fn := fun _ => fun
  | [d1, d2, d3] => { results := [.lit (.bool false)], args := [d1, d2, d3] }
  | _ => none }
def FnExactCrewStartWrongFalsely : Prop := fnExactCrewStartRow.holds Try.pinned (OpenSpec.ofChange fnExactCrewStartWrong)

/-- 'laws.FnExactCrewSerial': WHATEVER THE INPUT: true; the input reads as it did. -/
def fnExactCrewSerialSpec : ChangeSpec := { name := "fnExactCrewSerial", fn := fun _ => fun
  | [d] => { results := [.lit (.bool true)], args := [d] }
  | _ => none }
def fnExactCrewSerialRow : OpenClaim := { program := "ytdingkbggjehoaa", sum := "208409dd19ded7a36463f96a67b4f642753ac9358938c0a7f44d84f131852ce5", func := "loop.example/teagle/laws.FnExactCrewSerial", spec := "fnExactCrewSerial", unfollowed := true, recurses := true, apart := false }
def FnExactCrewSerialSaid : Prop := fnExactCrewSerialRow.holds Try.pinned (OpenSpec.ofChange fnExactCrewSerialSpec)

/-- ITS FALSE NEIGHBOUR: 'it returns false'. Refute it at one input. -/
def fnExactCrewSerialWrong : ChangeSpec := { name := "fnExactCrewSerial", fn := fun _ => fun
  | [d] => { results := [.lit (.bool false)], args := [d] }
  | _ => none }
def FnExactCrewSerialWrongFalsely : Prop := fnExactCrewSerialRow.holds Try.pinned (OpenSpec.ofChange fnExactCrewSerialWrong)

/-- 'laws.FnExactCrewRun': WHATEVER THE INPUT: true; the input reads as it did. -/
def fnExactCrewRunSpec : ChangeSpec := { name := "fnExactCrewRun", fn := fun _ => fun
  | [d1, d2, d3] => { results := [.lit (.bool true)], args := [d1, d2, d3] }
  | _ => none }
def fnExactCrewRunRow : OpenClaim := { program := "ytdingkbggjehoaa", sum := "208409dd19ded7a36463f96a67b4f642753ac9358938c0a7f44d84f131852ce5", func := "loop.example/teagle/laws.FnExactCrewRun", spec := "fnExactCrewRun", unfollowed := true, recurses := true, apart := false }
def FnExactCrewRunSaid : Prop := fnExactCrewRunRow.holds Try.pinned (OpenSpec.ofChange fnExactCrewRunSpec)

/-- ITS FALSE NEIGHBOUR: 'it returns false'. Refute it at one input. -/
def fnExactCrewRunWrong : ChangeSpec := { name := "fnExactCrewRun", fn := fun _ => fun
  | [d1, d2, d3] => { results := [.lit (.bool false)], args := [d1, d2, d3] }
  | _ => none }
def FnExactCrewRunWrongFalsely : Prop := fnExactCrewRunRow.holds Try.pinned (OpenSpec.ofChange fnExactCrewRunWrong)

/-- 'laws.FnCrewRun': WHATEVER THE INPUT: true; the input reads as it did. -/
def fnCrewRunSpec : ChangeSpec := { name := "fnCrewRun", fn := fun _ => fun
  | [d1, d2] => { results := [.lit (.bool true)], args := [d1, d2] }
  | _ => none }
def fnCrewRunRow : OpenClaim := { program := "ytdingkbggjehoaa", sum := "208409dd19ded7a36463f96a67b4f642753ac9358938c0a7f44d84f131852ce5", func := "loop.example/teagle/laws.FnCrewRun", spec := "fnCrewRun", unfollowed := true, recurses := true, apart := false }
def FnCrewRunSaid : Prop := fnCrewRunRow.holds Try.pinned (OpenSpec.ofChange fnCrewRunSpec)

/-- ITS FALSE NEIGHBOUR: 'it returns false'. Refute it at one input. -/
def fnCrewRunWrong : ChangeSpec := { name := "fnCrewRun", fn := fun _ => fun
  | [d1, d2] => { results := [.lit (.bool false)], args := [d1, d2] }
  | _ => none }
def FnCrewRunWrongFalsely : Prop := fnCrewRunRow.holds Try.pinned (OpenSpec.ofChange fnCrewRunWrong)

/-- 'laws.FnExactDiskOk': WHATEVER THE INPUT: true; the input reads as it did. -/
def fnExactDiskOkSpec : ChangeSpec := { name := "fnExactDiskOk", fn := fun _ => fun
  | [d] => { results := [.lit (.bool true)], args := [d] }
  | _ => none }
def fnExactDiskOkRow : OpenClaim := { program := "ytdingkbggjehoaa", sum := "208409dd19ded7a36463f96a67b4f642753ac9358938c0a7f44d84f131852ce5", func := "loop.example/teagle/laws.FnExactDiskOk", spec := "fnExactDiskOk", unfollowed := true, recurses := true, apart := false }
def FnExactDiskOkSaid : Prop := fnExactDiskOkRow.holds Try.pinned (OpenSpec.ofChange fnExactDiskOkSpec)

/-- ITS FALSE NEIGHBOUR: 'it returns false'. Refute it at one input. -/
def fnExactDiskOkWrong : ChangeSpec := { name := "fnExactDiskOk", fn := fun _ => fun
  | [d] => { results := [.lit (.bool false)], args := [d] }
  | _ => none }
def FnExactDiskOkWrongFalsely : Prop := fnExactDiskOkRow.holds Try.pinned (OpenSpec.ofChange fnExactDiskOkWrong)

/-- 'laws.FnExactDiskNames': WHATEVER THE INPUT: true; the input reads as it did. -/
def fnExactDiskNamesSpec : ChangeSpec := { name := "fnExactDiskNames", fn := fun _ => fun
  | [d] => { results := [.lit (.bool true)], args := [d] }
  | _ => none }
def fnExactDiskNamesRow : OpenClaim := { program := "ytdingkbggjehoaa", sum := "208409dd19ded7a36463f96a67b4f642753ac9358938c0a7f44d84f131852ce5", func := "loop.example/teagle/laws.FnExactDiskNames", spec := "fnExactDiskNames", unfollowed := true, recurses := true, apart := false }
def FnExactDiskNamesSaid : Prop := fnExactDiskNamesRow.holds Try.pinned (OpenSpec.ofChange fnExactDiskNamesSpec)

/-- ITS FALSE NEIGHBOUR: 'it returns false'. Refute it at one input. -/
def fnExactDiskNamesWrong : ChangeSpec := { name := "fnExactDiskNames", fn := fun _ => fun
  | [d] => { results := [.lit (.bool false)], args := [d] }
  | _ => none }
def FnExactDiskNamesWrongFalsely : Prop := fnExactDiskNamesRow.holds Try.pinned (OpenSpec.ofChange fnExactDiskNamesWrong)

/-- 'laws.FnExactDiskLook': WHATEVER THE INPUT: true; the input reads as it did. -/
def fnExactDiskLookSpec : ChangeSpec := { name := "fnExactDiskLook", fn := fun _ => fun
  | [d1, d2] => { results := [.lit (.bool true)], args := [d1, d2] }
  | _ => none }
def fnExactDiskLookRow : OpenClaim := { program := "ytdingkbggjehoaa", sum := "208409dd19ded7a36463f96a67b4f642753ac9358938c0a7f44d84f131852ce5", func := "loop.example/teagle/laws.FnExactDiskLook", spec := "fnExactDiskLook", unfollowed := true, recurses := true, apart := false }
def FnExactDiskLookSaid : Prop := fnExactDiskLookRow.holds Try.pinned (OpenSpec.ofChange fnExactDiskLookSpec)

/-- ITS FALSE NEIGHBOUR: 'it returns false'. Refute it at one input. -/
def fnExactDiskLookWrong : ChangeSpec := { name := "fnExactDiskLook", fn := fun _ => fun
  | [d1, d2] => { results := [.lit (.bool false)], args := [d1, d2] }
  | _ => none }
def FnExactDiskLookWrongFalsely : Prop := fnExactDiskLookRow.holds Try.pinned (OpenSpec.ofChange fnExactDiskLookWrong)

/-- 'laws.FnExactDiskCut': WHATEVER THE INPUT: true; the input reads as it did. -/
def fnExactDiskCutSpec : ChangeSpec := { name := "fnExactDiskCut", fn := fun _ => fun
  | [d1, d2, d3] => { results := [.lit (.bool true)], args := [d1, d2, d3] }
  | _ => none }
def fnExactDiskCutRow : OpenClaim := { program := "ytdingkbggjehoaa", sum := "208409dd19ded7a36463f96a67b4f642753ac9358938c0a7f44d84f131852ce5", func := "loop.example/teagle/laws.FnExactDiskCut", spec := "fnExactDiskCut", unfollowed := true, recurses := true, apart := false }
def FnExactDiskCutSaid : Prop := fnExactDiskCutRow.holds Try.pinned (OpenSpec.ofChange fnExactDiskCutSpec)

/-- ITS FALSE NEIGHBOUR: 'it returns false'. Refute it at one input. -/
def fnExactDiskCutWrong : ChangeSpec := { name := "fnExactDiskCut", fn := fun _ => fun
  | [d1, d2, d3] => { results := [.lit (.bool false)], args := [d1, d2, d3] }
  | _ => none }
def FnExactDiskCutWrongFalsely : Prop := fnExactDiskCutRow.holds Try.pinned (OpenSpec.ofChange fnExactDiskCutWrong)

/-- 'laws.FnExactEventUnpack': WHATEVER THE INPUT: true; the input reads as it did. -/
def fnExactEventUnpackSpec : ChangeSpec := { name := "fnExactEventUnpack", fn := fun _ => fun
  | [d] => { results := [.lit (.bool true)], args := [d] }
  | _ => none }
def fnExactEventUnpackRow : OpenClaim := { program := "ytdingkbggjehoaa", sum := "208409dd19ded7a36463f96a67b4f642753ac9358938c0a7f44d84f131852ce5", func := "loop.example/teagle/laws.FnExactEventUnpack", spec := "fnExactEventUnpack", recurses := true, apart := false }
def FnExactEventUnpackSaid : Prop := fnExactEventUnpackRow.holds Try.pinned (OpenSpec.ofChange fnExactEventUnpackSpec)

/-- ITS FALSE NEIGHBOUR: 'it returns false'. Refute it at one input. -/
def fnExactEventUnpackWrong : ChangeSpec := { name := "fnExactEventUnpack", fn := fun _ => fun
  | [d] => { results := [.lit (.bool false)], args := [d] }
  | _ => none }
def FnExactEventUnpackWrongFalsely : Prop := fnExactEventUnpackRow.holds Try.pinned (OpenSpec.ofChange fnExactEventUnpackWrong)

/- THE SECOND FORM. 'bulk': how many values and letters a reading holds, each counted each time it is reached (what is shared counts as often as it is met; a slice's spare places count too). A statement '..UptoSaid' is the law's where the arguments, and the package variables that the reading takes, are together of bulk at most 1048576: NARROWER than '..Said'. Prove '..Said' where nothing that the law and all that it calls make is longer than what came in: it says more and counts as full. Else prove '..UptoSaid'. A law counts once. -/
mutual
def uptoBulk {H : Type} : DataW H → Nat
  | .lit (.string bytes) => bytes.length + 1
  | .lit _ => 1
  | .nil => 1
  | .ptr d => uptoBulk d + 1
  | .slice elems spare => uptoBulkAll elems + uptoBulkAll spare + 1
  | .agg parts => uptoBulkAll parts + 1
  | .iface _ d => uptoBulk d + 1
  | .map entries => uptoBulkEntries entries + 1
  | .held _ => 1
def uptoBulkAll {H : Type} : List (DataW H) → Nat
  | [] => 0
  | d :: r => uptoBulk d + uptoBulkAll r
def uptoBulkEntries {H : Type} : List (Lit × DataW H) → Nat
  | [] => 0
  | x :: r => uptoBulkEntry x + uptoBulkEntries r
def uptoBulkEntry {H : Type} : Lit × DataW H → Nat
  | (.string bytes, d) => bytes.length + uptoBulk d + 1
  | (_, d) => uptoBulk d + 1
 end
def uptoSmall : (H : Type) → List (DataW H) → Bool := fun _ ds => decide (uptoBulkAll ds ≤ 1048576)
def OpenSpec.upto (s : _root_.Go.ChangeSpec) : _root_.Go.OpenSpec := { _root_.Go.OpenSpec.ofChange s with cond := some uptoSmall }

/-- 'laws.FnExactKindFits', WHERE WHAT IT READS IS OF BULK AT MOST 1048576: true; the input reads as it did. -/
def fnExactKindFitsUptoRow : OpenClaim := { program := "ytdingkbggjehoaa", sum := "208409dd19ded7a36463f96a67b4f642753ac9358938c0a7f44d84f131852ce5", func := "loop.example/teagle/laws.FnExactKindFits", spec := "fnExactKindFits", recurses := true, loops := true, apart := false, narrowed := true }
def FnExactKindFitsUptoSaid : Prop := fnExactKindFitsUptoRow.holds Try.pinned (OpenSpec.upto fnExactKindFitsSpec)

/-- 'laws.FnExactKindFirst', WHERE WHAT IT READS IS OF BULK AT MOST 1048576: true; the input reads as it did. -/
def fnExactKindFirstUptoRow : OpenClaim := { program := "ytdingkbggjehoaa", sum := "208409dd19ded7a36463f96a67b4f642753ac9358938c0a7f44d84f131852ce5", func := "loop.example/teagle/laws.FnExactKindFirst", spec := "fnExactKindFirst", recurses := true, loops := true, apart := false, narrowed := true }
def FnExactKindFirstUptoSaid : Prop := fnExactKindFirstUptoRow.holds Try.pinned (OpenSpec.upto fnExactKindFirstSpec)

/-- 'laws.FnKindFirst', WHERE WHAT IT READS IS OF BULK AT MOST 1048576: true; the input reads as it did. -/
def fnKindFirstUptoRow : OpenClaim := { program := "ytdingkbggjehoaa", sum := "208409dd19ded7a36463f96a67b4f642753ac9358938c0a7f44d84f131852ce5", func := "loop.example/teagle/laws.FnKindFirst", spec := "fnKindFirst", recurses := true, apart := false, narrowed := true }
def FnKindFirstUptoSaid : Prop := fnKindFirstUptoRow.holds Try.pinned (OpenSpec.upto fnKindFirstSpec)

/-- 'laws.FnExactCrewStart', WHERE WHAT IT READS IS OF BULK AT MOST 1048576: true; the input reads as it did. -/
def fnExactCrewStartUptoRow : OpenClaim := { program := "ytdingkbggjehoaa", sum := "208409dd19ded7a36463f96a67b4f642753ac9358938c0a7f44d84f131852ce5", func := "loop.example/teagle/laws.FnExactCrewStart", spec := "fnExactCrewStart", apart := false, narrowed := true }
def FnExactCrewStartUptoSaid : Prop := fnExactCrewStartUptoRow.holds Try.pinned (OpenSpec.upto fnExactCrewStartSpec)

/-- 'laws.FnExactCrewSerial', WHERE WHAT IT READS IS OF BULK AT MOST 1048576: true; the input reads as it did. -/
def fnExactCrewSerialUptoRow : OpenClaim := { program := "ytdingkbggjehoaa", sum := "208409dd19ded7a36463f96a67b4f642753ac9358938c0a7f44d84f131852ce5", func := "loop.example/teagle/laws.FnExactCrewSerial", spec := "fnExactCrewSerial", unfollowed := true, recurses := true, apart := false, narrowed := true }
def FnExactCrewSerialUptoSaid : Prop := fnExactCrewSerialUptoRow.holds Try.pinned (OpenSpec.upto fnExactCrewSerialSpec)

/-- 'laws.FnExactCrewRun', WHERE WHAT IT READS IS OF BULK AT MOST 1048576: true; the input reads as it did. -/
def fnExactCrewRunUptoRow : OpenClaim := { program := "ytdingkbggjehoaa", sum := "208409dd19ded7a36463f96a67b4f642753ac9358938c0a7f44d84f131852ce5", func := "loop.example/teagle/laws.FnExactCrewRun", spec := "fnExactCrewRun", unfollowed := true, recurses := true, apart := false, narrowed := true }
def FnExactCrewRunUptoSaid : Prop := fnExactCrewRunUptoRow.holds Try.pinned (OpenSpec.upto fnExactCrewRunSpec)

/-- 'laws.FnCrewRun', WHERE WHAT IT READS IS OF BULK AT MOST 1048576: true; the input reads as it did. -/
def fnCrewRunUptoRow : OpenClaim := { program := "ytdingkbggjehoaa", sum := "208409dd19ded7a36463f96a67b4f642753ac9358938c0a7f44d84f131852ce5", func := "loop.example/teagle/laws.FnCrewRun", spec := "fnCrewRun", unfollowed := true, recurses := true, apart := false, narrowed := true }
def FnCrewRunUptoSaid : Prop := fnCrewRunUptoRow.holds Try.pinned (OpenSpec.upto fnCrewRunSpec)

/-- 'laws.FnExactDiskOk', WHERE WHAT IT READS IS OF BULK AT MOST 1048576: true; the input reads as it did. -/
def fnExactDiskOkUptoRow : OpenClaim := { program := "ytdingkbggjehoaa", sum := "208409dd19ded7a36463f96a67b4f642753ac9358938c0a7f44d84f131852ce5", func := "loop.example/teagle/laws.FnExactDiskOk", spec := "fnExactDiskOk", unfollowed := true, recurses := true, apart := false, narrowed := true }
def FnExactDiskOkUptoSaid : Prop := fnExactDiskOkUptoRow.holds Try.pinned (OpenSpec.upto fnExactDiskOkSpec)

/-- 'laws.FnExactDiskNames', WHERE WHAT IT READS IS OF BULK AT MOST 1048576: true; the input reads as it did. -/
def fnExactDiskNamesUptoRow : OpenClaim := { program := "ytdingkbggjehoaa", sum := "208409dd19ded7a36463f96a67b4f642753ac9358938c0a7f44d84f131852ce5", func := "loop.example/teagle/laws.FnExactDiskNames", spec := "fnExactDiskNames", unfollowed := true, recurses := true, apart := false, narrowed := true }
def FnExactDiskNamesUptoSaid : Prop := fnExactDiskNamesUptoRow.holds Try.pinned (OpenSpec.upto fnExactDiskNamesSpec)

/-- 'laws.FnExactDiskLook', WHERE WHAT IT READS IS OF BULK AT MOST 1048576: true; the input reads as it did. -/
def fnExactDiskLookUptoRow : OpenClaim := { program := "ytdingkbggjehoaa", sum := "208409dd19ded7a36463f96a67b4f642753ac9358938c0a7f44d84f131852ce5", func := "loop.example/teagle/laws.FnExactDiskLook", spec := "fnExactDiskLook", unfollowed := true, recurses := true, apart := false, narrowed := true }
def FnExactDiskLookUptoSaid : Prop := fnExactDiskLookUptoRow.holds Try.pinned (OpenSpec.upto fnExactDiskLookSpec)

/-- 'laws.FnExactDiskCut', WHERE WHAT IT READS IS OF BULK AT MOST 1048576: true; the input reads as it did. -/
def fnExactDiskCutUptoRow : OpenClaim := { program := "ytdingkbggjehoaa", sum := "208409dd19ded7a36463f96a67b4f642753ac9358938c0a7f44d84f131852ce5", func := "loop.example/teagle/laws.FnExactDiskCut", spec := "fnExactDiskCut", unfollowed := true, recurses := true, apart := false, narrowed := true }
def FnExactDiskCutUptoSaid : Prop := fnExactDiskCutUptoRow.holds Try.pinned (OpenSpec.upto fnExactDiskCutSpec)

/-- 'laws.FnExactEventUnpack', WHERE WHAT IT READS IS OF BULK AT MOST 1048576: true; the input reads as it did. -/
def fnExactEventUnpackUptoRow : OpenClaim := { program := "ytdingkbggjehoaa", sum := "208409dd19ded7a36463f96a67b4f642753ac9358938c0a7f44d84f131852ce5", func := "loop.example/teagle/laws.FnExactEventUnpack", spec := "fnExactEventUnpack", recurses := true, apart := false, narrowed := true }
def FnExactEventUnpackUptoSaid : Prop := fnExactEventUnpackUptoRow.holds Try.pinned (OpenSpec.upto fnExactEventUnpackSpec)

end Rows
end Go.Proofs.Ytdingkbggjehoaa
