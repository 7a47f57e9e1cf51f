/-
  What the program forces at FnExactLogPlanRead: closed facts, each by the kernel.
-/
import Derived.Test.YtknlnndocamcmaaDoorRows
import Derived.Test.YtknlnndocamcmaaDoorStr
import Derived.JoinedOf
set_option linter.unusedVariables false
namespace Go.Proofs.YtknlnndocamcmaaDoor.fnExactLogPlanRead
open Go.ChangeShapes Go.WideShapes Go.ChangeAt Go.RowKit

theorem fact1 : (Rows.fnExactLogPlanReadRow.wf (OpenSpec.ofChange Rows.fnExactLogPlanReadSpec)) = true := by kernel_rfl
theorem fact2 : (laidOutB Tryd.prog) = true := by kernel_rfl
theorem fact3 : (mapsRowed Tryd.prog) = true := by kernel_rfl
theorem fact4 : (Tryd.f3.params.all (Program.readableRec Tryd.prog ·)) = true := by kernel_rfl
theorem fact5 : (namedTie Tryd.prog Rows.fnExactLogPlanReadRow.named Rows.fnExactLogPlanReadSpec.vars) = true := by kernel_rfl
theorem fact6 : ((Rows.fnExactLogPlanReadRow.stops == [])) = true := by kernel_rfl
theorem fact7 : ((Tryd.prog.stops == [])) = true := by kernel_rfl
theorem fact8 : ((Rows.fnExactLogPlanReadRow.knobs == [])) = true := by kernel_rfl
theorem fact9 : ((Tryd.prog.stopKnobs == [])) = true := by kernel_rfl
theorem fact10 : ((Rows.fnExactLogPlanReadRow.inPlace == Tryd.prog.inPlace 3)) = true := by kernel_rfl
theorem fact11 : ((Rows.fnExactLogPlanReadRow.unfollowed == Tryd.prog.unfollowed 3)) = true := by kernel_rfl
theorem fact12 : ((Rows.fnExactLogPlanReadRow.recurses == Tryd.prog.recurses 3)) = true := by kernel_rfl
theorem fact13 : ((Rows.fnExactLogPlanReadRow.named == Tryd.prog.varsNamed 3)) = true := by kernel_rfl
theorem fact14 : ((Rows.fnExactLogPlanReadRow.maps == (Tryd.f3.params.toList ++ Rows.fnExactLogPlanReadSpec.plain.varTypes Tryd.prog).any (Program.mapsRec Tryd.prog ·))) = true := by kernel_rfl
theorem fact15 : ((Rows.fnExactLogPlanReadRow.ifaces == (Tryd.f3.params.toList ++ Rows.fnExactLogPlanReadSpec.plain.varTypes Tryd.prog).any (Program.ifacesRec Tryd.prog ·))) = true := by kernel_rfl
theorem fact16 : ((Rows.fnExactLogPlanReadRow.mapsOut == Tryd.prog.mapsAmong Tryd.f3.resultTypes.toList)) = true := by kernel_rfl
theorem fact17 : ((Rows.fnExactLogPlanReadRow.loops == (Tryd.f3.params.toList ++ Rows.fnExactLogPlanReadSpec.plain.varTypes Tryd.prog).any (Program.loopsFrom Tryd.prog ·))) = true := by kernel_rfl
theorem fact18 : ((Rows.fnExactLogPlanReadRow.wideKeys == (Tryd.f3.params.toList ++ Rows.fnExactLogPlanReadSpec.plain.varTypes Tryd.prog ++ Tryd.f3.resultTypes.toList).any (Program.wideKeysFrom Tryd.prog ·))) = true := by kernel_rfl
theorem fact19 : (Rows.fnExactLogPlanReadSpec.vars.all (Program.varReadable Tryd.prog ·)) = true := by kernel_rfl
theorem fact20 : (Tryd.f3.resultTypes.all (fun t => Tryd.prog.readableRec t && decide (t < Tryd.prog.types.size))) = true := by kernel_rfl
theorem fact21 : ((Rows.fnExactLogPlanReadRow.ifacesOut == Tryd.f3.resultTypes.toList.any (Program.ifacesRec Tryd.prog ·))) = true := by kernel_rfl
theorem fact22 : ((Rows.fnExactLogPlanReadRow.loopsOut == Tryd.f3.resultTypes.toList.any (Program.loopsFrom Tryd.prog ·))) = true := by kernel_rfl
theorem fact23 : ((Rows.fnExactLogPlanReadRow.plainKeys == Tryd.prog.plainKeys)) = true := by kernel_rfl
theorem fact24 : (Rows.fnExactLogPlanReadRow.shortTexts.isNone) = true := by kernel_rfl
theorem fact25 : (Tryd.prog.stopsHeard) = true := by kernel_rfl
theorem fact26 : (Tryd.prog.mayEnter) = true := by kernel_rfl
theorem fact27 : ((Rows.fnExactLogPlanReadRow.lifted == Tryd.prog.liftsFinal)) = true := by kernel_rfl
theorem fact28 : ((Tryd.prog.make == some Rows.fnExactLogPlanReadRow.make)) = true := by kernel_rfl
theorem fact29 : ((Rows.fnExactLogPlanReadRow.kinds == (if Rows.fnExactLogPlanReadRow.domain.isEmpty then [] else Tryd.f3.params.toList.map fun t => match Tryd.prog.underlying t with | some (.int k) => some k | _ => none))) = true := by kernel_rfl
theorem fact30 : ((Rows.fnExactLogPlanReadRow.pinned == Rows.fnExactLogPlanReadRow.pinnedBy)) = true := by kernel_rfl
theorem fact31 : ((Rows.fnExactLogPlanReadRow.veiled == (Tryd.f3.params.toList ++ Rows.fnExactLogPlanReadSpec.plain.varTypes Tryd.prog ++ Tryd.f3.resultTypes.toList).any (Program.veiledRec Tryd.prog ·))) = true := by kernel_rfl
theorem fact32 : (Rows.fnExactLogPlanReadRow.veiledFits Tryd.prog Tryd.f3.params.toList (Tryd.f3.params.toList ++ Rows.fnExactLogPlanReadSpec.plain.varTypes Tryd.prog ++ Tryd.f3.resultTypes.toList)) = true := by kernel_rfl
end Go.Proofs.YtknlnndocamcmaaDoor.fnExactLogPlanRead
