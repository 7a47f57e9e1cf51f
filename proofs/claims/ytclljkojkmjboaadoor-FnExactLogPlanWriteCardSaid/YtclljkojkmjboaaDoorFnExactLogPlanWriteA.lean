/-
  What the program forces at FnExactLogPlanWrite: closed facts, each by the kernel.
-/
import Derived.Test.YtclljkojkmjboaaDoorRows
import Derived.Test.YtclljkojkmjboaaDoorStr
import Derived.JoinedOf
set_option linter.unusedVariables false
namespace Go.Proofs.YtclljkojkmjboaaDoor.fnExactLogPlanWrite
open Go.ChangeShapes Go.WideShapes Go.ChangeAt Go.RowKit

theorem fact1 : (Rows.fnExactLogPlanWriteRow.wf (OpenSpec.ofChange Rows.fnExactLogPlanWriteSpec)) = true := by kernel_rfl
theorem fact2 : (laidOutB Tryd.prog) = true := by kernel_rfl
theorem fact3 : (mapsRowed Tryd.prog) = true := by kernel_rfl
theorem fact4 : (Tryd.f3.params.all (Program.readableRec Tryd.prog ·)) = true := by kernel_rfl
theorem fact5 : (namedTie Tryd.prog Rows.fnExactLogPlanWriteRow.named Rows.fnExactLogPlanWriteSpec.vars) = true := by kernel_rfl
theorem fact6 : ((Rows.fnExactLogPlanWriteRow.stops == [])) = true := by kernel_rfl
theorem fact7 : ((Tryd.prog.stops == [])) = true := by kernel_rfl
theorem fact8 : ((Rows.fnExactLogPlanWriteRow.knobs == [])) = true := by kernel_rfl
theorem fact9 : ((Tryd.prog.stopKnobs == [])) = true := by kernel_rfl
theorem fact10 : ((Rows.fnExactLogPlanWriteRow.inPlace == Tryd.prog.inPlace 3)) = true := by kernel_rfl
theorem fact11 : ((Rows.fnExactLogPlanWriteRow.unfollowed == Tryd.prog.unfollowed 3)) = true := by kernel_rfl
theorem fact12 : ((Rows.fnExactLogPlanWriteRow.recurses == Tryd.prog.recurses 3)) = true := by kernel_rfl
theorem fact13 : ((Rows.fnExactLogPlanWriteRow.named == Tryd.prog.varsNamed 3)) = true := by kernel_rfl
theorem fact14 : ((Rows.fnExactLogPlanWriteRow.maps == (Tryd.f3.params.toList ++ Rows.fnExactLogPlanWriteSpec.plain.varTypes Tryd.prog).any (Program.mapsRec Tryd.prog ·))) = true := by kernel_rfl
theorem fact15 : ((Rows.fnExactLogPlanWriteRow.ifaces == (Tryd.f3.params.toList ++ Rows.fnExactLogPlanWriteSpec.plain.varTypes Tryd.prog).any (Program.ifacesRec Tryd.prog ·))) = true := by kernel_rfl
theorem fact16 : ((Rows.fnExactLogPlanWriteRow.mapsOut == Tryd.prog.mapsAmong Tryd.f3.resultTypes.toList)) = true := by kernel_rfl
theorem fact17 : ((Rows.fnExactLogPlanWriteRow.loops == (Tryd.f3.params.toList ++ Rows.fnExactLogPlanWriteSpec.plain.varTypes Tryd.prog).any (Program.loopsFrom Tryd.prog ·))) = true := by kernel_rfl
theorem fact18 : ((Rows.fnExactLogPlanWriteRow.wideKeys == (Tryd.f3.params.toList ++ Rows.fnExactLogPlanWriteSpec.plain.varTypes Tryd.prog ++ Tryd.f3.resultTypes.toList).any (Program.wideKeysFrom Tryd.prog ·))) = true := by kernel_rfl
theorem fact19 : (Rows.fnExactLogPlanWriteSpec.vars.all (Program.varReadable Tryd.prog ·)) = true := by kernel_rfl
theorem fact20 : (Tryd.f3.resultTypes.all (fun t => Tryd.prog.readableRec t && decide (t < Tryd.prog.types.size))) = true := by kernel_rfl
theorem fact21 : ((Rows.fnExactLogPlanWriteRow.ifacesOut == Tryd.f3.resultTypes.toList.any (Program.ifacesRec Tryd.prog ·))) = true := by kernel_rfl
theorem fact22 : ((Rows.fnExactLogPlanWriteRow.loopsOut == Tryd.f3.resultTypes.toList.any (Program.loopsFrom Tryd.prog ·))) = true := by kernel_rfl
theorem fact23 : ((Rows.fnExactLogPlanWriteRow.plainKeys == Tryd.prog.plainKeys)) = true := by kernel_rfl
theorem fact24 : (Rows.fnExactLogPlanWriteRow.shortTexts.isNone) = true := by kernel_rfl
theorem fact25 : (Tryd.prog.stopsHeard) = true := by kernel_rfl
theorem fact26 : (Tryd.prog.mayEnter) = true := by kernel_rfl
theorem fact27 : ((Rows.fnExactLogPlanWriteRow.lifted == Tryd.prog.liftsFinal)) = true := by kernel_rfl
theorem fact28 : ((Tryd.prog.make == some Rows.fnExactLogPlanWriteRow.make)) = true := by kernel_rfl
theorem fact29 : ((Rows.fnExactLogPlanWriteRow.kinds == (if Rows.fnExactLogPlanWriteRow.domain.isEmpty then [] else Tryd.f3.params.toList.map fun t => match Tryd.prog.underlying t with | some (.int k) => some k | _ => none))) = true := by kernel_rfl
theorem fact30 : ((Rows.fnExactLogPlanWriteRow.pinned == Rows.fnExactLogPlanWriteRow.pinnedBy)) = true := by kernel_rfl
theorem fact31 : ((Rows.fnExactLogPlanWriteRow.veiled == (Tryd.f3.params.toList ++ Rows.fnExactLogPlanWriteSpec.plain.varTypes Tryd.prog ++ Tryd.f3.resultTypes.toList).any (Program.veiledRec Tryd.prog ·))) = true := by kernel_rfl
theorem fact32 : (Rows.fnExactLogPlanWriteRow.veiledFits Tryd.prog Tryd.f3.params.toList (Tryd.f3.params.toList ++ Rows.fnExactLogPlanWriteSpec.plain.varTypes Tryd.prog ++ Tryd.f3.resultTypes.toList)) = true := by kernel_rfl
end Go.Proofs.YtclljkojkmjboaaDoor.fnExactLogPlanWrite
