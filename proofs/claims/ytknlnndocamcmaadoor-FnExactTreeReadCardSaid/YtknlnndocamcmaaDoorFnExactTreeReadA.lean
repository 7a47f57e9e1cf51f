/-
  What the program forces at FnExactTreeRead: closed facts, each by the kernel.
-/
import Derived.Test.YtknlnndocamcmaaDoorRows
import Derived.Test.YtknlnndocamcmaaDoorStr
import Derived.JoinedOf
set_option linter.unusedVariables false
namespace Go.Proofs.YtknlnndocamcmaaDoor.fnExactTreeRead
open Go.ChangeShapes Go.WideShapes Go.ChangeAt Go.RowKit

theorem fact1 : (Rows.fnExactTreeReadRow.wf (OpenSpec.ofChange Rows.fnExactTreeReadSpec)) = true := by kernel_rfl
theorem fact2 : (laidOutB Tryd.prog) = true := by kernel_rfl
theorem fact3 : (mapsRowed Tryd.prog) = true := by kernel_rfl
theorem fact4 : (Tryd.f5.params.all (Program.readableRec Tryd.prog ·)) = true := by kernel_rfl
theorem fact5 : (namedTie Tryd.prog Rows.fnExactTreeReadRow.named Rows.fnExactTreeReadSpec.vars) = true := by kernel_rfl
theorem fact6 : ((Rows.fnExactTreeReadRow.stops == [])) = true := by kernel_rfl
theorem fact7 : ((Tryd.prog.stops == [])) = true := by kernel_rfl
theorem fact8 : ((Rows.fnExactTreeReadRow.knobs == [])) = true := by kernel_rfl
theorem fact9 : ((Tryd.prog.stopKnobs == [])) = true := by kernel_rfl
theorem fact10 : ((Rows.fnExactTreeReadRow.inPlace == Tryd.prog.inPlace 5)) = true := by kernel_rfl
theorem fact11 : ((Rows.fnExactTreeReadRow.unfollowed == Tryd.prog.unfollowed 5)) = true := by kernel_rfl
theorem fact12 : ((Rows.fnExactTreeReadRow.recurses == Tryd.prog.recurses 5)) = true := by kernel_rfl
theorem fact13 : ((Rows.fnExactTreeReadRow.named == Tryd.prog.varsNamed 5)) = true := by kernel_rfl
theorem fact14 : ((Rows.fnExactTreeReadRow.maps == (Tryd.f5.params.toList ++ Rows.fnExactTreeReadSpec.plain.varTypes Tryd.prog).any (Program.mapsRec Tryd.prog ·))) = true := by kernel_rfl
theorem fact15 : ((Rows.fnExactTreeReadRow.ifaces == (Tryd.f5.params.toList ++ Rows.fnExactTreeReadSpec.plain.varTypes Tryd.prog).any (Program.ifacesRec Tryd.prog ·))) = true := by kernel_rfl
theorem fact16 : ((Rows.fnExactTreeReadRow.mapsOut == Tryd.prog.mapsAmong Tryd.f5.resultTypes.toList)) = true := by kernel_rfl
theorem fact17 : ((Rows.fnExactTreeReadRow.loops == (Tryd.f5.params.toList ++ Rows.fnExactTreeReadSpec.plain.varTypes Tryd.prog).any (Program.loopsFrom Tryd.prog ·))) = true := by kernel_rfl
theorem fact18 : ((Rows.fnExactTreeReadRow.wideKeys == (Tryd.f5.params.toList ++ Rows.fnExactTreeReadSpec.plain.varTypes Tryd.prog ++ Tryd.f5.resultTypes.toList).any (Program.wideKeysFrom Tryd.prog ·))) = true := by kernel_rfl
theorem fact19 : (Rows.fnExactTreeReadSpec.vars.all (Program.varReadable Tryd.prog ·)) = true := by kernel_rfl
theorem fact20 : (Tryd.f5.resultTypes.all (fun t => Tryd.prog.readableRec t && decide (t < Tryd.prog.types.size))) = true := by kernel_rfl
theorem fact21 : ((Rows.fnExactTreeReadRow.ifacesOut == Tryd.f5.resultTypes.toList.any (Program.ifacesRec Tryd.prog ·))) = true := by kernel_rfl
theorem fact22 : ((Rows.fnExactTreeReadRow.loopsOut == Tryd.f5.resultTypes.toList.any (Program.loopsFrom Tryd.prog ·))) = true := by kernel_rfl
theorem fact23 : ((Rows.fnExactTreeReadRow.plainKeys == Tryd.prog.plainKeys)) = true := by kernel_rfl
theorem fact24 : (Rows.fnExactTreeReadRow.shortTexts.isNone) = true := by kernel_rfl
theorem fact25 : (Tryd.prog.stopsHeard) = true := by kernel_rfl
theorem fact26 : (Tryd.prog.mayEnter) = true := by kernel_rfl
theorem fact27 : ((Rows.fnExactTreeReadRow.lifted == Tryd.prog.liftsFinal)) = true := by kernel_rfl
theorem fact28 : ((Tryd.prog.make == some Rows.fnExactTreeReadRow.make)) = true := by kernel_rfl
theorem fact29 : ((Rows.fnExactTreeReadRow.kinds == (if Rows.fnExactTreeReadRow.domain.isEmpty then [] else Tryd.f5.params.toList.map fun t => match Tryd.prog.underlying t with | some (.int k) => some k | _ => none))) = true := by kernel_rfl
theorem fact30 : ((Rows.fnExactTreeReadRow.pinned == Rows.fnExactTreeReadRow.pinnedBy)) = true := by kernel_rfl
theorem fact31 : ((Rows.fnExactTreeReadRow.veiled == (Tryd.f5.params.toList ++ Rows.fnExactTreeReadSpec.plain.varTypes Tryd.prog ++ Tryd.f5.resultTypes.toList).any (Program.veiledRec Tryd.prog ·))) = true := by kernel_rfl
theorem fact32 : (Rows.fnExactTreeReadRow.veiledFits Tryd.prog Tryd.f5.params.toList (Tryd.f5.params.toList ++ Rows.fnExactTreeReadSpec.plain.varTypes Tryd.prog ++ Tryd.f5.resultTypes.toList)) = true := by kernel_rfl
end Go.Proofs.YtknlnndocamcmaaDoor.fnExactTreeRead
