/-
  NARROWER THAN 'FOR EVERY INPUT', by the rows' own cells (each row's printed sentence says how): FnExactTreeOk: loops · FnExactTreeParts: loops · FnExactKindFits: loops · FnExactKindWrite: loops · FnExactKindFirst: loops.
  DERIVED. THE GIVEN ROWS OF THIS SEAT. 6 by the template 'for every input the law returns true; each argument reads behind the call as it read before'; 0 by the template 'total and deterministic' (their statements: YtfofpddgfiipkaaTotals.lean).
  GIVEN WITH THE SEED: the statements are not yours to turn. If you find one false, say at which input.
  Laid BY PROGRAM, IN A SANDBOX (cutbox-rows.mjs): the forced cells as the released guide's own fill.sh prints them over the translation 712b422af420c6ca… (all of the seat's roots in one cut). By AI agents, Wed Nov 11 2026. No macro, syntax, notation, axiom, sorry.
-/
import Derived.Test.YtfofpddgfiipkaaChecked
import GoSem.Claim
import GoSem.ClaimJoined
import GoSem.ClaimMapViews
import Derived.JoinedTies
import Derived.KernelRfl
namespace Go.Proofs.Ytfofpddgfiipkaa
/- THE CELL 'sum', in the pinned program and in every row, IS THE sha256 OF THE DUMP (.gsa) THAT YtfofpddgfiipkaaProg.lean LOADS. Nothing in Lean hashes anything: it is a label: what it is worth is what the hold of that sum in a sandbox is worth. -/
noncomputable def Try.pinned : Pinned := { name := "ytfofpddgfiipkaa", sum := "712b422af420c6ca287ef343569931bc5639db655e8c185cf87472ce6f1fc60f", checked := Try.checked }
namespace Rows
def none {H : Type} : Left H := { results := [], args := [] }

/-- 'laws.FnExactTreeOk': WHATEVER THE INPUT: true; the input reads as it did. -/
def fnExactTreeOkSpec : ChangeSpec := { name := "fnExactTreeOk", fn := fun _ => fun
  | [d] => { results := [.lit (.bool true)], args := [d] }
  | _ => none }
def fnExactTreeOkRow : OpenClaim := { program := "ytfofpddgfiipkaa", sum := "712b422af420c6ca287ef343569931bc5639db655e8c185cf87472ce6f1fc60f", func := "loop.example/teagle/laws.FnExactTreeOk", spec := "fnExactTreeOk", recurses := true, loops := true, apart := false }
def FnExactTreeOkSaid : Prop := fnExactTreeOkRow.holds Try.pinned (OpenSpec.ofChange fnExactTreeOkSpec)

/-- ITS FALSE NEIGHBOUR: 'it returns false'. Refute it at one input. -/
def fnExactTreeOkWrong : ChangeSpec := { name := "fnExactTreeOk", fn := fun _ => fun
  | [d] => { results := [.lit (.bool false)], args := [d] }
  | _ => none }
def FnExactTreeOkWrongFalsely : Prop := fnExactTreeOkRow.holds Try.pinned (OpenSpec.ofChange fnExactTreeOkWrong)

/-- 'laws.FnExactTreeParts': WHATEVER THE INPUT: true; the input reads as it did. -/
def fnExactTreePartsSpec : ChangeSpec := { name := "fnExactTreeParts", fn := fun _ => fun
  | [d] => { results := [.lit (.bool true)], args := [d] }
  | _ => none }
def fnExactTreePartsRow : OpenClaim := { program := "ytfofpddgfiipkaa", sum := "712b422af420c6ca287ef343569931bc5639db655e8c185cf87472ce6f1fc60f", func := "loop.example/teagle/laws.FnExactTreeParts", spec := "fnExactTreeParts", recurses := true, loops := true, apart := false }
def FnExactTreePartsSaid : Prop := fnExactTreePartsRow.holds Try.pinned (OpenSpec.ofChange fnExactTreePartsSpec)

/-- ITS FALSE NEIGHBOUR: 'it returns false'. Refute it at one input. -/
def fnExactTreePartsWrong : ChangeSpec := { name := "fnExactTreeParts", fn := fun _ => fun
  | [d] => { results := [.lit (.bool false)], args := [d] }
  | _ => none }
def FnExactTreePartsWrongFalsely : Prop := fnExactTreePartsRow.holds Try.pinned (OpenSpec.ofChange fnExactTreePartsWrong)

/-- 'laws.FnExactKindFits': WHATEVER THE INPUT: true; the input reads as it did. -/
def fnExactKindFitsSpec : ChangeSpec := { name := "fnExactKindFits", fn := fun _ => fun
  | [d1, d2] => { results := [.lit (.bool true)], args := [d1, d2] }
  | _ => none }
def fnExactKindFitsRow : OpenClaim := { program := "ytfofpddgfiipkaa", sum := "712b422af420c6ca287ef343569931bc5639db655e8c185cf87472ce6f1fc60f", func := "loop.example/teagle/laws.FnExactKindFits", spec := "fnExactKindFits", recurses := true, loops := true, apart := false }
def FnExactKindFitsSaid : Prop := fnExactKindFitsRow.holds Try.pinned (OpenSpec.ofChange fnExactKindFitsSpec)

/-- ITS FALSE NEIGHBOUR: 'it returns false'. Refute it at one input. -/
def fnExactKindFitsWrong : ChangeSpec := { name := "fnExactKindFits", fn := fun _ => fun
  | [d1, d2] => { results := [.lit (.bool false)], args := [d1, d2] }
  | _ => none }
def FnExactKindFitsWrongFalsely : Prop := fnExactKindFitsRow.holds Try.pinned (OpenSpec.ofChange fnExactKindFitsWrong)

/-- 'laws.FnExactKindWrite': WHATEVER THE INPUT: true; the input reads as it did. -/
def fnExactKindWriteSpec : ChangeSpec := { name := "fnExactKindWrite", fn := fun _ => fun
  | [d] => { results := [.lit (.bool true)], args := [d] }
  | _ => none }
def fnExactKindWriteRow : OpenClaim := { program := "ytfofpddgfiipkaa", sum := "712b422af420c6ca287ef343569931bc5639db655e8c185cf87472ce6f1fc60f", func := "loop.example/teagle/laws.FnExactKindWrite", spec := "fnExactKindWrite", inPlace := ["internal/abi.NoEscape"], recurses := true, loops := true, apart := false }
def FnExactKindWriteSaid : Prop := fnExactKindWriteRow.holds Try.pinned (OpenSpec.ofChange fnExactKindWriteSpec)

/-- ITS FALSE NEIGHBOUR: 'it returns false'. Refute it at one input. -/
def fnExactKindWriteWrong : ChangeSpec := { name := "fnExactKindWrite", fn := fun _ => fun
  | [d] => { results := [.lit (.bool false)], args := [d] }
  | _ => none }
def FnExactKindWriteWrongFalsely : Prop := fnExactKindWriteRow.holds Try.pinned (OpenSpec.ofChange fnExactKindWriteWrong)

/-- 'laws.FnKindFirst': WHATEVER THE INPUT: true; the input reads as it did. -/
def fnKindFirstSpec : ChangeSpec := { name := "fnKindFirst", fn := fun _ => fun
  | [d] => { results := [.lit (.bool true)], args := [d] }
  | _ => none }
def fnKindFirstRow : OpenClaim := { program := "ytfofpddgfiipkaa", sum := "712b422af420c6ca287ef343569931bc5639db655e8c185cf87472ce6f1fc60f", func := "loop.example/teagle/laws.FnKindFirst", spec := "fnKindFirst", recurses := true, apart := false }
def FnKindFirstSaid : Prop := fnKindFirstRow.holds Try.pinned (OpenSpec.ofChange fnKindFirstSpec)

/-- ITS FALSE NEIGHBOUR: 'it returns false'. Refute it at one input. -/
def fnKindFirstWrong : ChangeSpec := { name := "fnKindFirst", fn := fun _ => fun
  | [d] => { results := [.lit (.bool false)], args := [d] }
  | _ => none }
def FnKindFirstWrongFalsely : Prop := fnKindFirstRow.holds Try.pinned (OpenSpec.ofChange fnKindFirstWrong)

/-- 'laws.FnExactKindFirst': WHATEVER THE INPUT: true; the input reads as it did. -/
def fnExactKindFirstSpec : ChangeSpec := { name := "fnExactKindFirst", fn := fun _ => fun
  | [d] => { results := [.lit (.bool true)], args := [d] }
  | _ => none }
def fnExactKindFirstRow : OpenClaim := { program := "ytfofpddgfiipkaa", sum := "712b422af420c6ca287ef343569931bc5639db655e8c185cf87472ce6f1fc60f", func := "loop.example/teagle/laws.FnExactKindFirst", spec := "fnExactKindFirst", recurses := true, loops := true, apart := false }
def FnExactKindFirstSaid : Prop := fnExactKindFirstRow.holds Try.pinned (OpenSpec.ofChange fnExactKindFirstSpec)

/-- ITS FALSE NEIGHBOUR: 'it returns false'. Refute it at one input. -/
def fnExactKindFirstWrong : ChangeSpec := { name := "fnExactKindFirst", fn := fun _ => fun
  | [d] => { results := [.lit (.bool false)], args := [d] }
  | _ => none }
def FnExactKindFirstWrongFalsely : Prop := fnExactKindFirstRow.holds Try.pinned (OpenSpec.ofChange fnExactKindFirstWrong)

/- THE SECOND FORM. 'bulk': how many values and letters a reading holds, each counted each time it is reached (what is shared counts as often as it is met; a slice's spare places count too). A statement '..UptoSaid' is the law's where the arguments, and the package variables that the reading takes, are together of bulk at most 1048576: NARROWER than '..Said'. Prove '..Said' where nothing that the law and all that it calls make is longer than what came in: it says more and counts as full. Else prove '..UptoSaid'. A law counts once. -/
mutual
def uptoBulk {H : Type} : DataW H → Nat
  | .lit (.string bytes) => bytes.length + 1
  | .lit _ => 1
  | .nil => 1
  | .ptr d => uptoBulk d + 1
  | .slice elems spare => uptoBulkAll elems + uptoBulkAll spare + 1
  | .agg parts => uptoBulkAll parts + 1
  | .iface _ d => uptoBulk d + 1
  | .map entries => uptoBulkEntries entries + 1
  | .held _ => 1
def uptoBulkAll {H : Type} : List (DataW H) → Nat
  | [] => 0
  | d :: r => uptoBulk d + uptoBulkAll r
def uptoBulkEntries {H : Type} : List (Lit × DataW H) → Nat
  | [] => 0
  | x :: r => uptoBulkEntry x + uptoBulkEntries r
def uptoBulkEntry {H : Type} : Lit × DataW H → Nat
  | (.string bytes, d) => bytes.length + uptoBulk d + 1
  | (_, d) => uptoBulk d + 1
 end
def uptoSmall : (H : Type) → List (DataW H) → Bool := fun _ ds => decide (uptoBulkAll ds ≤ 1048576)
def OpenSpec.upto (s : _root_.Go.ChangeSpec) : _root_.Go.OpenSpec := { _root_.Go.OpenSpec.ofChange s with cond := some uptoSmall }

/-- 'laws.FnExactTreeOk', WHERE WHAT IT READS IS OF BULK AT MOST 1048576: true; the input reads as it did. -/
def fnExactTreeOkUptoRow : OpenClaim := { program := "ytfofpddgfiipkaa", sum := "712b422af420c6ca287ef343569931bc5639db655e8c185cf87472ce6f1fc60f", func := "loop.example/teagle/laws.FnExactTreeOk", spec := "fnExactTreeOk", recurses := true, loops := true, apart := false, narrowed := true }
def FnExactTreeOkUptoSaid : Prop := fnExactTreeOkUptoRow.holds Try.pinned (OpenSpec.upto fnExactTreeOkSpec)

/-- 'laws.FnExactTreeParts', WHERE WHAT IT READS IS OF BULK AT MOST 1048576: true; the input reads as it did. -/
def fnExactTreePartsUptoRow : OpenClaim := { program := "ytfofpddgfiipkaa", sum := "712b422af420c6ca287ef343569931bc5639db655e8c185cf87472ce6f1fc60f", func := "loop.example/teagle/laws.FnExactTreeParts", spec := "fnExactTreeParts", recurses := true, loops := true, apart := false, narrowed := true }
def FnExactTreePartsUptoSaid : Prop := fnExactTreePartsUptoRow.holds Try.pinned (OpenSpec.upto fnExactTreePartsSpec)

/-- 'laws.FnExactKindFits', WHERE WHAT IT READS IS OF BULK AT MOST 1048576: true; the input reads as it did. -/
def fnExactKindFitsUptoRow : OpenClaim := { program := "ytfofpddgfiipkaa", sum := "712b422af420c6ca287ef343569931bc5639db655e8c185cf87472ce6f1fc60f", func := "loop.example/teagle/laws.FnExactKindFits", spec := "fnExactKindFits", recurses := true, loops := true, apart := false, narrowed := true }
def FnExactKindFitsUptoSaid : Prop := fnExactKindFitsUptoRow.holds Try.pinned (OpenSpec.upto fnExactKindFitsSpec)

/-- 'laws.FnExactKindWrite', WHERE WHAT IT READS IS OF BULK AT MOST 1048576: true; the input reads as it did. -/
def fnExactKindWriteUptoRow : OpenClaim := { program := "ytfofpddgfiipkaa", sum := "712b422af420c6ca287ef343569931bc5639db655e8c185cf87472ce6f1fc60f", func := "loop.example/teagle/laws.FnExactKindWrite", spec := "fnExactKindWrite", inPlace := ["internal/abi.NoEscape"], recurses := true, loops := true, apart := false, narrowed := true }
def FnExactKindWriteUptoSaid : Prop := fnExactKindWriteUptoRow.holds Try.pinned (OpenSpec.upto fnExactKindWriteSpec)

/-- 'laws.FnKindFirst', WHERE WHAT IT READS IS OF BULK AT MOST 1048576: true; the input reads as it did. -/
def fnKindFirstUptoRow : OpenClaim := { program := "ytfofpddgfiipkaa", sum := "712b422af420c6ca287ef343569931bc5639db655e8c185cf87472ce6f1fc60f", func := "loop.example/teagle/laws.FnKindFirst", spec := "fnKindFirst", recurses := true, apart := false, narrowed := true }
def FnKindFirstUptoSaid : Prop := fnKindFirstUptoRow.holds Try.pinned (OpenSpec.upto fnKindFirstSpec)

/-- 'laws.FnExactKindFirst', WHERE WHAT IT READS IS OF BULK AT MOST 1048576: true; the input reads as it did. -/
def fnExactKindFirstUptoRow : OpenClaim := { program := "ytfofpddgfiipkaa", sum := "712b422af420c6ca287ef343569931bc5639db655e8c185cf87472ce6f1fc60f", func := "loop.example/teagle/laws.FnExactKindFirst", spec := "fnExactKindFirst", recurses := true, loops := true, apart := false, narrowed := true }
def FnExactKindFirstUptoSaid : Prop := fnExactKindFirstUptoRow.holds Try.pinned (OpenSpec.upto fnExactKindFirstSpec)

end Rows
end Go.Proofs.Ytfofpddgfiipkaa
