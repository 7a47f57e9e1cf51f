/-
  What the program forces at FnLogPlan: closed facts, each by the kernel.
-/
import Derived.Test.YtknlnndocamcmaaDoorRows
import Derived.Test.YtknlnndocamcmaaDoorStr
import Derived.JoinedOf
set_option linter.unusedVariables false
namespace Go.Proofs.YtknlnndocamcmaaDoor.fnLogPlan
open Go.ChangeShapes Go.WideShapes Go.ChangeAt Go.RowKit

theorem fact1 : (Rows.fnLogPlanRow.wf (OpenSpec.ofChange Rows.fnLogPlanSpec)) = true := by kernel_rfl
theorem fact2 : (laidOutB Tryd.prog) = true := by kernel_rfl
theorem fact3 : (mapsRowed Tryd.prog) = true := by kernel_rfl
theorem fact4 : (Tryd.f4.params.all (Program.readableRec Tryd.prog ·)) = true := by kernel_rfl
theorem fact5 : (namedTie Tryd.prog Rows.fnLogPlanRow.named Rows.fnLogPlanSpec.vars) = true := by kernel_rfl
theorem fact6 : ((Rows.fnLogPlanRow.stops == [])) = true := by kernel_rfl
theorem fact7 : ((Tryd.prog.stops == [])) = true := by kernel_rfl
theorem fact8 : ((Rows.fnLogPlanRow.knobs == [])) = true := by kernel_rfl
theorem fact9 : ((Tryd.prog.stopKnobs == [])) = true := by kernel_rfl
theorem fact10 : ((Rows.fnLogPlanRow.inPlace == Tryd.prog.inPlace 4)) = true := by kernel_rfl
theorem fact11 : ((Rows.fnLogPlanRow.unfollowed == Tryd.prog.unfollowed 4)) = true := by kernel_rfl
theorem fact12 : ((Rows.fnLogPlanRow.recurses == Tryd.prog.recurses 4)) = true := by kernel_rfl
theorem fact13 : ((Rows.fnLogPlanRow.named == Tryd.prog.varsNamed 4)) = true := by kernel_rfl
theorem fact14 : ((Rows.fnLogPlanRow.maps == (Tryd.f4.params.toList ++ Rows.fnLogPlanSpec.plain.varTypes Tryd.prog).any (Program.mapsRec Tryd.prog ·))) = true := by kernel_rfl
theorem fact15 : ((Rows.fnLogPlanRow.ifaces == (Tryd.f4.params.toList ++ Rows.fnLogPlanSpec.plain.varTypes Tryd.prog).any (Program.ifacesRec Tryd.prog ·))) = true := by kernel_rfl
theorem fact16 : ((Rows.fnLogPlanRow.mapsOut == Tryd.prog.mapsAmong Tryd.f4.resultTypes.toList)) = true := by kernel_rfl
theorem fact17 : ((Rows.fnLogPlanRow.loops == (Tryd.f4.params.toList ++ Rows.fnLogPlanSpec.plain.varTypes Tryd.prog).any (Program.loopsFrom Tryd.prog ·))) = true := by kernel_rfl
theorem fact18 : ((Rows.fnLogPlanRow.wideKeys == (Tryd.f4.params.toList ++ Rows.fnLogPlanSpec.plain.varTypes Tryd.prog ++ Tryd.f4.resultTypes.toList).any (Program.wideKeysFrom Tryd.prog ·))) = true := by kernel_rfl
theorem fact19 : (Rows.fnLogPlanSpec.vars.all (Program.varReadable Tryd.prog ·)) = true := by kernel_rfl
theorem fact20 : (Tryd.f4.resultTypes.all (fun t => Tryd.prog.readableRec t && decide (t < Tryd.prog.types.size))) = true := by kernel_rfl
theorem fact21 : ((Rows.fnLogPlanRow.ifacesOut == Tryd.f4.resultTypes.toList.any (Program.ifacesRec Tryd.prog ·))) = true := by kernel_rfl
theorem fact22 : ((Rows.fnLogPlanRow.loopsOut == Tryd.f4.resultTypes.toList.any (Program.loopsFrom Tryd.prog ·))) = true := by kernel_rfl
theorem fact23 : ((Rows.fnLogPlanRow.plainKeys == Tryd.prog.plainKeys)) = true := by kernel_rfl
theorem fact24 : (Rows.fnLogPlanRow.shortTexts.isNone) = true := by kernel_rfl
theorem fact25 : (Tryd.prog.stopsHeard) = true := by kernel_rfl
theorem fact26 : (Tryd.prog.mayEnter) = true := by kernel_rfl
theorem fact27 : ((Rows.fnLogPlanRow.lifted == Tryd.prog.liftsFinal)) = true := by kernel_rfl
theorem fact28 : ((Tryd.prog.make == some Rows.fnLogPlanRow.make)) = true := by kernel_rfl
theorem fact29 : ((Rows.fnLogPlanRow.kinds == (if Rows.fnLogPlanRow.domain.isEmpty then [] else Tryd.f4.params.toList.map fun t => match Tryd.prog.underlying t with | some (.int k) => some k | _ => none))) = true := by kernel_rfl
theorem fact30 : ((Rows.fnLogPlanRow.pinned == Rows.fnLogPlanRow.pinnedBy)) = true := by kernel_rfl
theorem fact31 : ((Rows.fnLogPlanRow.veiled == (Tryd.f4.params.toList ++ Rows.fnLogPlanSpec.plain.varTypes Tryd.prog ++ Tryd.f4.resultTypes.toList).any (Program.veiledRec Tryd.prog ·))) = true := by kernel_rfl
theorem fact32 : (Rows.fnLogPlanRow.veiledFits Tryd.prog Tryd.f4.params.toList (Tryd.f4.params.toList ++ Rows.fnLogPlanSpec.plain.varTypes Tryd.prog ++ Tryd.f4.resultTypes.toList)) = true := by kernel_rfl
end Go.Proofs.YtknlnndocamcmaaDoor.fnLogPlan
