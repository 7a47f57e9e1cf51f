/-
  No cell of these rows narrows 'for every input' (looked for: loops, veiled, ifaces, maps, wideKeys, modest, calm, conditions, laid).
  DERIVED. THE GIVEN ROWS OF THIS SEAT. 9 by the template 'for every input the law returns true; each argument reads behind the call as it read before'; 0 by the template 'total and deterministic' (their statements: YtpkjjfnfolbcoaaTotals.lean).
  GIVEN WITH THE SEED: the statements are not yours to turn. If you find one false, say at which input.
  Laid BY PROGRAM, IN A SANDBOX (cutbox-rows.mjs): the forced cells as the released guide's own fill.sh prints them over the translation a7d6239e879fc8c6… (all of the seat's roots in one cut). By AI agents, Wed Nov 11 2026. No macro, syntax, notation, axiom, sorry.
-/
import Derived.Test.YtpkjjfnfolbcoaaChecked
import GoSem.Claim
import GoSem.ClaimJoined
import GoSem.ClaimMapViews
import Derived.JoinedTies
import Derived.KernelRfl
namespace Go.Proofs.Ytpkjjfnfolbcoaa
/- THE CELL 'sum', in the pinned program and in every row, IS THE sha256 OF THE DUMP (.gsa) THAT YtpkjjfnfolbcoaaProg.lean LOADS. Nothing in Lean hashes anything: it is a label: what it is worth is what the hold of that sum in a sandbox is worth. -/
noncomputable def Try.pinned : Pinned := { name := "ytpkjjfnfolbcoaa", sum := "a7d6239e879fc8c662b277c1f714f27e21211bcf479e6e44a6ad1b6413841089", checked := Try.checked }
namespace Rows
def none {H : Type} : Left H := { results := [], args := [] }

/-- 'laws.FnExactCrewOk': WHATEVER THE INPUT: true; the input reads as it did. -/
def fnExactCrewOkSpec : ChangeSpec := { name := "fnExactCrewOk", fn := fun _ => fun
  | [d] => { results := [.lit (.bool true)], args := [d] }
  | _ => none }
def fnExactCrewOkRow : OpenClaim := { program := "ytpkjjfnfolbcoaa", sum := "a7d6239e879fc8c662b277c1f714f27e21211bcf479e6e44a6ad1b6413841089", func := "loop.example/teagle/laws.FnExactCrewOk", spec := "fnExactCrewOk", unfollowed := true, recurses := true, apart := false }
def FnExactCrewOkSaid : Prop := fnExactCrewOkRow.holds Try.pinned (OpenSpec.ofChange fnExactCrewOkSpec)

/-- ITS FALSE NEIGHBOUR: 'it returns false'. Refute it at one input. -/
def fnExactCrewOkWrong : ChangeSpec := { name := "fnExactCrewOk", fn := fun _ => fun
  | [d] => { results := [.lit (.bool false)], args := [d] }
  | _ => none }
def FnExactCrewOkWrongFalsely : Prop := fnExactCrewOkRow.holds Try.pinned (OpenSpec.ofChange fnExactCrewOkWrong)

/-- 'laws.FnExactCrewEnded': WHATEVER THE INPUT: true; the input reads as it did. -/
def fnExactCrewEndedSpec : ChangeSpec := { name := "fnExactCrewEnded", fn := fun _ => fun
  | [d] => { results := [.lit (.bool true)], args := [d] }
  | _ => none }
def fnExactCrewEndedRow : OpenClaim := { program := "ytpkjjfnfolbcoaa", sum := "a7d6239e879fc8c662b277c1f714f27e21211bcf479e6e44a6ad1b6413841089", func := "loop.example/teagle/laws.FnExactCrewEnded", spec := "fnExactCrewEnded", unfollowed := true, recurses := true, apart := false }
def FnExactCrewEndedSaid : Prop := fnExactCrewEndedRow.holds Try.pinned (OpenSpec.ofChange fnExactCrewEndedSpec)

/-- ITS FALSE NEIGHBOUR: 'it returns false'. Refute it at one input. -/
def fnExactCrewEndedWrong : ChangeSpec := { name := "fnExactCrewEnded", fn := fun _ => fun
  | [d] => { results := [.lit (.bool false)], args := [d] }
  | _ => none }
def FnExactCrewEndedWrongFalsely : Prop := fnExactCrewEndedRow.holds Try.pinned (OpenSpec.ofChange fnExactCrewEndedWrong)

/-- 'laws.FnExactCrewLeft': WHATEVER THE INPUT: true; the input reads as it did. -/
def fnExactCrewLeftSpec : ChangeSpec := { name := "fnExactCrewLeft", fn := fun _ => fun
  | [d] => { results := [.lit (.bool true)], args := [d] }
  | _ => none }
def fnExactCrewLeftRow : OpenClaim := { program := "ytpkjjfnfolbcoaa", sum := "a7d6239e879fc8c662b277c1f714f27e21211bcf479e6e44a6ad1b6413841089", func := "loop.example/teagle/laws.FnExactCrewLeft", spec := "fnExactCrewLeft", unfollowed := true, recurses := true, apart := false }
def FnExactCrewLeftSaid : Prop := fnExactCrewLeftRow.holds Try.pinned (OpenSpec.ofChange fnExactCrewLeftSpec)

/-- ITS FALSE NEIGHBOUR: 'it returns false'. Refute it at one input. -/
def fnExactCrewLeftWrong : ChangeSpec := { name := "fnExactCrewLeft", fn := fun _ => fun
  | [d] => { results := [.lit (.bool false)], args := [d] }
  | _ => none }
def FnExactCrewLeftWrongFalsely : Prop := fnExactCrewLeftRow.holds Try.pinned (OpenSpec.ofChange fnExactCrewLeftWrong)

/-- 'laws.FnCrewStart': WHATEVER THE INPUT: true; the input reads as it did. -/
def fnCrewStartSpec : ChangeSpec := { name := "fnCrewStart", fn := fun _ => fun
  | [d] => { results := [.lit (.bool true)], args := [d] }
  | _ => none }
def fnCrewStartRow : OpenClaim := { program := "ytpkjjfnfolbcoaa", sum := "a7d6239e879fc8c662b277c1f714f27e21211bcf479e6e44a6ad1b6413841089", func := "loop.example/teagle/laws.FnCrewStart", spec := "fnCrewStart", unfollowed := true, recurses := true, apart := false }
def FnCrewStartSaid : Prop := fnCrewStartRow.holds Try.pinned (OpenSpec.ofChange fnCrewStartSpec)

/-- ITS FALSE NEIGHBOUR: 'it returns false'. Refute it at one input. -/
def fnCrewStartWrong : ChangeSpec := { name := "fnCrewStart", fn := fun _ => fun
  | [d] => { results := [.lit (.bool false)], args := [d] }
  | _ => none }
def FnCrewStartWrongFalsely : Prop := fnCrewStartRow.holds Try.pinned (OpenSpec.ofChange fnCrewStartWrong)

/-- 'laws.FnExactCrewPlay': WHATEVER THE INPUT: true; the input reads as it did. -/
def fnExactCrewPlaySpec : ChangeSpec := { name := "fnExactCrewPlay", fn := fun _ => fun
  | [d1, d2, d3, d4, d5] => { results := [.lit (.bool true)], args := [d1, d2, d3, d4, d5] }
  | _ => none }
def fnExactCrewPlayRow : OpenClaim := { program := "ytpkjjfnfolbcoaa", sum := "a7d6239e879fc8c662b277c1f714f27e21211bcf479e6e44a6ad1b6413841089", func := "loop.example/teagle/laws.FnExactCrewPlay", spec := "fnExactCrewPlay", unfollowed := true, recurses := true, apart := false }
def FnExactCrewPlaySaid : Prop := fnExactCrewPlayRow.holds Try.pinned (OpenSpec.ofChange fnExactCrewPlaySpec)

/-- ITS FALSE NEIGHBOUR: 'it returns false'. Refute it at one input. -/
def fnExactCrewPlayWrong : ChangeSpec := { name := "fnExactCrewPlay", fn := fun _ => fun
  | [d1, d2, d3, d4, d5] => { results := [.lit (.bool false)], args := [d1, d2, d3, d4, d5] }
  | _ => none }
def FnExactCrewPlayWrongFalsely : Prop := fnExactCrewPlayRow.holds Try.pinned (OpenSpec.ofChange fnExactCrewPlayWrong)

/-- 'laws.FnExactCrewMoves': WHATEVER THE INPUT: true; the input reads as it did. -/
def fnExactCrewMovesSpec : ChangeSpec := { name := "fnExactCrewMoves", fn := fun _ => fun
  | [d] => { results := [.lit (.bool true)], args := [d] }
  | _ => none }
def fnExactCrewMovesRow : OpenClaim := { program := "ytpkjjfnfolbcoaa", sum := "a7d6239e879fc8c662b277c1f714f27e21211bcf479e6e44a6ad1b6413841089", func := "loop.example/teagle/laws.FnExactCrewMoves", spec := "fnExactCrewMoves", unfollowed := true, recurses := true, apart := false }
def FnExactCrewMovesSaid : Prop := fnExactCrewMovesRow.holds Try.pinned (OpenSpec.ofChange fnExactCrewMovesSpec)

/-- ITS FALSE NEIGHBOUR: 'it returns false'. Refute it at one input. -/
def fnExactCrewMovesWrong : ChangeSpec := { name := "fnExactCrewMoves", fn := fun _ => fun
  | [d] => { results := [.lit (.bool false)], args := [d] }
  | _ => none }
def FnExactCrewMovesWrongFalsely : Prop := fnExactCrewMovesRow.holds Try.pinned (OpenSpec.ofChange fnExactCrewMovesWrong)

/-- 'laws.FnCrewCut': WHATEVER THE INPUT: true; the input reads as it did. -/
def fnCrewCutSpec : ChangeSpec := { name := "fnCrewCut", fn := fun _ => fun
  | [d] => { results := [.lit (.bool true)], args := [d] }
  | _ => none }
def fnCrewCutRow : OpenClaim := { program := "ytpkjjfnfolbcoaa", sum := "a7d6239e879fc8c662b277c1f714f27e21211bcf479e6e44a6ad1b6413841089", func := "loop.example/teagle/laws.FnCrewCut", spec := "fnCrewCut", unfollowed := true, recurses := true, apart := false }
def FnCrewCutSaid : Prop := fnCrewCutRow.holds Try.pinned (OpenSpec.ofChange fnCrewCutSpec)

/-- ITS FALSE NEIGHBOUR: 'it returns false'. Refute it at one input. -/
def fnCrewCutWrong : ChangeSpec := { name := "fnCrewCut", fn := fun _ => fun
  | [d] => { results := [.lit (.bool false)], args := [d] }
  | _ => none }
def FnCrewCutWrongFalsely : Prop := fnCrewCutRow.holds Try.pinned (OpenSpec.ofChange fnCrewCutWrong)

/-- 'laws.FnCrewTop': WHATEVER THE INPUT: true; the input reads as it did. -/
def fnCrewTopSpec : ChangeSpec := { name := "fnCrewTop", fn := fun _ => fun
  | [d] => { results := [.lit (.bool true)], args := [d] }
  | _ => none }
def fnCrewTopRow : OpenClaim := { program := "ytpkjjfnfolbcoaa", sum := "a7d6239e879fc8c662b277c1f714f27e21211bcf479e6e44a6ad1b6413841089", func := "loop.example/teagle/laws.FnCrewTop", spec := "fnCrewTop", unfollowed := true, recurses := true, apart := false }
def FnCrewTopSaid : Prop := fnCrewTopRow.holds Try.pinned (OpenSpec.ofChange fnCrewTopSpec)

/-- ITS FALSE NEIGHBOUR: 'it returns false'. Refute it at one input. -/
def fnCrewTopWrong : ChangeSpec := { name := "fnCrewTop", fn := fun _ => fun
  | [d] => { results := [.lit (.bool false)], args := [d] }
  | _ => none }
def FnCrewTopWrongFalsely : Prop := fnCrewTopRow.holds Try.pinned (OpenSpec.ofChange fnCrewTopWrong)

/-- 'laws.FnDiskCut': WHATEVER THE INPUT: true; the input reads as it did. -/
def fnDiskCutSpec : ChangeSpec := { name := "fnDiskCut", fn := fun _ => fun
  | [d1, d2] => { results := [.lit (.bool true)], args := [d1, d2] }
  | _ => none }
def fnDiskCutRow : OpenClaim := { program := "ytpkjjfnfolbcoaa", sum := "a7d6239e879fc8c662b277c1f714f27e21211bcf479e6e44a6ad1b6413841089", func := "loop.example/teagle/laws.FnDiskCut", spec := "fnDiskCut", unfollowed := true, recurses := true, apart := false }
def FnDiskCutSaid : Prop := fnDiskCutRow.holds Try.pinned (OpenSpec.ofChange fnDiskCutSpec)

/-- ITS FALSE NEIGHBOUR: 'it returns false'. Refute it at one input. -/
def fnDiskCutWrong : ChangeSpec := { name := "fnDiskCut", fn := fun _ => fun
  | [d1, d2] => { results := [.lit (.bool false)], args := [d1, d2] }
  | _ => none }
def FnDiskCutWrongFalsely : Prop := fnDiskCutRow.holds Try.pinned (OpenSpec.ofChange fnDiskCutWrong)

/- THE SECOND FORM. 'bulk': how many values and letters a reading holds, each counted each time it is reached (what is shared counts as often as it is met; a slice's spare places count too). A statement '..UptoSaid' is the law's where the arguments, and the package variables that the reading takes, are together of bulk at most 1048576: NARROWER than '..Said'. Prove '..Said' where nothing that the law and all that it calls make is longer than what came in: it says more and counts as full. Else prove '..UptoSaid'. A law counts once. -/
mutual
def uptoBulk {H : Type} : DataW H → Nat
  | .lit (.string bytes) => bytes.length + 1
  | .lit _ => 1
  | .nil => 1
  | .ptr d => uptoBulk d + 1
  | .slice elems spare => uptoBulkAll elems + uptoBulkAll spare + 1
  | .agg parts => uptoBulkAll parts + 1
  | .iface _ d => uptoBulk d + 1
  | .map entries => uptoBulkEntries entries + 1
  | .held _ => 1
def uptoBulkAll {H : Type} : List (DataW H) → Nat
  | [] => 0
  | d :: r => uptoBulk d + uptoBulkAll r
def uptoBulkEntries {H : Type} : List (Lit × DataW H) → Nat
  | [] => 0
  | x :: r => uptoBulkEntry x + uptoBulkEntries r
def uptoBulkEntry {H : Type} : Lit × DataW H → Nat
  | (.string bytes, d) => bytes.length + uptoBulk d + 1
  | (_, d) => uptoBulk d + 1
 end
def uptoSmall : (H : Type) → List (DataW H) → Bool := fun _ ds => decide (uptoBulkAll ds ≤ 1048576)
def OpenSpec.upto (s : _root_.Go.ChangeSpec) : _root_.Go.OpenSpec := { _root_.Go.OpenSpec.ofChange s with cond := some uptoSmall }

/-- 'laws.FnExactCrewOk', WHERE WHAT IT READS IS OF BULK AT MOST 1048576: true; the input reads as it did. -/
def fnExactCrewOkUptoRow : OpenClaim := { program := "ytpkjjfnfolbcoaa", sum := "a7d6239e879fc8c662b277c1f714f27e21211bcf479e6e44a6ad1b6413841089", func := "loop.example/teagle/laws.FnExactCrewOk", spec := "fnExactCrewOk", unfollowed := true, recurses := true, apart := false, narrowed := true }
def FnExactCrewOkUptoSaid : Prop := fnExactCrewOkUptoRow.holds Try.pinned (OpenSpec.upto fnExactCrewOkSpec)

/-- 'laws.FnExactCrewEnded', WHERE WHAT IT READS IS OF BULK AT MOST 1048576: true; the input reads as it did. -/
def fnExactCrewEndedUptoRow : OpenClaim := { program := "ytpkjjfnfolbcoaa", sum := "a7d6239e879fc8c662b277c1f714f27e21211bcf479e6e44a6ad1b6413841089", func := "loop.example/teagle/laws.FnExactCrewEnded", spec := "fnExactCrewEnded", unfollowed := true, recurses := true, apart := false, narrowed := true }
def FnExactCrewEndedUptoSaid : Prop := fnExactCrewEndedUptoRow.holds Try.pinned (OpenSpec.upto fnExactCrewEndedSpec)

/-- 'laws.FnExactCrewLeft', WHERE WHAT IT READS IS OF BULK AT MOST 1048576: true; the input reads as it did. -/
def fnExactCrewLeftUptoRow : OpenClaim := { program := "ytpkjjfnfolbcoaa", sum := "a7d6239e879fc8c662b277c1f714f27e21211bcf479e6e44a6ad1b6413841089", func := "loop.example/teagle/laws.FnExactCrewLeft", spec := "fnExactCrewLeft", unfollowed := true, recurses := true, apart := false, narrowed := true }
def FnExactCrewLeftUptoSaid : Prop := fnExactCrewLeftUptoRow.holds Try.pinned (OpenSpec.upto fnExactCrewLeftSpec)

/-- 'laws.FnCrewStart', WHERE WHAT IT READS IS OF BULK AT MOST 1048576: true; the input reads as it did. -/
def fnCrewStartUptoRow : OpenClaim := { program := "ytpkjjfnfolbcoaa", sum := "a7d6239e879fc8c662b277c1f714f27e21211bcf479e6e44a6ad1b6413841089", func := "loop.example/teagle/laws.FnCrewStart", spec := "fnCrewStart", unfollowed := true, recurses := true, apart := false, narrowed := true }
def FnCrewStartUptoSaid : Prop := fnCrewStartUptoRow.holds Try.pinned (OpenSpec.upto fnCrewStartSpec)

/-- 'laws.FnExactCrewPlay', WHERE WHAT IT READS IS OF BULK AT MOST 1048576: true; the input reads as it did. -/
def fnExactCrewPlayUptoRow : OpenClaim := { program := "ytpkjjfnfolbcoaa", sum := "a7d6239e879fc8c662b277c1f714f27e21211bcf479e6e44a6ad1b6413841089", func := "loop.example/teagle/laws.FnExactCrewPlay", spec := "fnExactCrewPlay", unfollowed := true, recurses := true, apart := false, narrowed := true }
def FnExactCrewPlayUptoSaid : Prop := fnExactCrewPlayUptoRow.holds Try.pinned (OpenSpec.upto fnExactCrewPlaySpec)

/-- 'laws.FnExactCrewMoves', WHERE WHAT IT READS IS OF BULK AT MOST 1048576: true; the input reads as it did. -/
def fnExactCrewMovesUptoRow : OpenClaim := { program := "ytpkjjfnfolbcoaa", sum := "a7d6239e879fc8c662b277c1f714f27e21211bcf479e6e44a6ad1b6413841089", func := "loop.example/teagle/laws.FnExactCrewMoves", spec := "fnExactCrewMoves", unfollowed := true, recurses := true, apart := false, narrowed := true }
def FnExactCrewMovesUptoSaid : Prop := fnExactCrewMovesUptoRow.holds Try.pinned (OpenSpec.upto fnExactCrewMovesSpec)

/-- 'laws.FnCrewCut', WHERE WHAT IT READS IS OF BULK AT MOST 1048576: true; the input reads as it did. -/
def fnCrewCutUptoRow : OpenClaim := { program := "ytpkjjfnfolbcoaa", sum := "a7d6239e879fc8c662b277c1f714f27e21211bcf479e6e44a6ad1b6413841089", func := "loop.example/teagle/laws.FnCrewCut", spec := "fnCrewCut", unfollowed := true, recurses := true, apart := false, narrowed := true }
def FnCrewCutUptoSaid : Prop := fnCrewCutUptoRow.holds Try.pinned (OpenSpec.upto fnCrewCutSpec)

/-- 'laws.FnCrewTop', WHERE WHAT IT READS IS OF BULK AT MOST 1048576: true; the input reads as it did. -/
def fnCrewTopUptoRow : OpenClaim := { program := "ytpkjjfnfolbcoaa", sum := "a7d6239e879fc8c662b277c1f714f27e21211bcf479e6e44a6ad1b6413841089", func := "loop.example/teagle/laws.FnCrewTop", spec := "fnCrewTop", unfollowed := true, recurses := true, apart := false, narrowed := true }
def FnCrewTopUptoSaid : Prop := fnCrewTopUptoRow.holds Try.pinned (OpenSpec.upto fnCrewTopSpec)

/-- 'laws.FnDiskCut', WHERE WHAT IT READS IS OF BULK AT MOST 1048576: true; the input reads as it did. -/
def fnDiskCutUptoRow : OpenClaim := { program := "ytpkjjfnfolbcoaa", sum := "a7d6239e879fc8c662b277c1f714f27e21211bcf479e6e44a6ad1b6413841089", func := "loop.example/teagle/laws.FnDiskCut", spec := "fnDiskCut", unfollowed := true, recurses := true, apart := false, narrowed := true }
def FnDiskCutUptoSaid : Prop := fnDiskCutUptoRow.holds Try.pinned (OpenSpec.upto fnDiskCutSpec)

end Rows
end Go.Proofs.Ytpkjjfnfolbcoaa
