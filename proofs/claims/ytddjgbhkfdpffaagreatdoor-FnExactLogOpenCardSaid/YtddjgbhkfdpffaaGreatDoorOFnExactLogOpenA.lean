/-
  What the program forces at FnExactLogOpen: closed facts, each by the kernel.
-/
import Derived.Test.YtddjgbhkfdpffaaGreatDoorRows
import Derived.JoinedOf
import Derived.Test.YtddjgbhkfdpffaaGreatDoorOStr
set_option linter.unusedVariables false
namespace Go.Proofs.YtddjgbhkfdpffaaGreatDoor.fnExactLogOpen
open Go.ChangeShapes Go.WideShapes Go.ChangeAt Go.RowKit

theorem fact1 : (Rows.fnExactLogOpenRow.wf (OpenSpec.ofChange Rows.fnExactLogOpenSpec)) = true := by kernel_rfl
theorem fact2 : (laidOutB Tryz.prog) = true := by kernel_rfl
theorem fact3 : (mapsRowed Tryz.prog) = true := by kernel_rfl
theorem fact4 : (Tryz.f3.params.all (Program.readableRec Tryz.prog ·)) = true := by kernel_rfl
theorem fact5 : (namedTie Tryz.prog Rows.fnExactLogOpenRow.named Rows.fnExactLogOpenSpec.vars) = true := by kernel_rfl
theorem fact6 : ((Rows.fnExactLogOpenRow.stops == [])) = true := by kernel_rfl
theorem fact7 : ((Tryz.prog.stops == [])) = true := by kernel_rfl
theorem fact8 : ((Rows.fnExactLogOpenRow.knobs == [])) = true := by kernel_rfl
theorem fact9 : ((Tryz.prog.stopKnobs == [])) = true := by kernel_rfl
theorem fact10 : ((Rows.fnExactLogOpenRow.inPlace == Tryz.prog.inPlace 3)) = true := by kernel_rfl
theorem fact11 : ((Rows.fnExactLogOpenRow.unfollowed == Tryz.prog.unfollowed 3)) = true := by kernel_rfl
theorem fact12 : ((Rows.fnExactLogOpenRow.recurses == Tryz.prog.recurses 3)) = true := by kernel_rfl
theorem fact13 : ((Rows.fnExactLogOpenRow.named == Tryz.prog.varsNamed 3)) = true := by kernel_rfl
theorem fact14 : ((Rows.fnExactLogOpenRow.maps == (Tryz.f3.params.toList ++ Rows.fnExactLogOpenSpec.plain.varTypes Tryz.prog).any (Program.mapsRec Tryz.prog ·))) = true := by kernel_rfl
theorem fact15 : ((Rows.fnExactLogOpenRow.ifaces == (Tryz.f3.params.toList ++ Rows.fnExactLogOpenSpec.plain.varTypes Tryz.prog).any (Program.ifacesRec Tryz.prog ·))) = true := by kernel_rfl
theorem fact16 : ((Rows.fnExactLogOpenRow.mapsOut == Tryz.prog.mapsAmong Tryz.f3.resultTypes.toList)) = true := by kernel_rfl
theorem fact17 : ((Rows.fnExactLogOpenRow.loops == (Tryz.f3.params.toList ++ Rows.fnExactLogOpenSpec.plain.varTypes Tryz.prog).any (Program.loopsFrom Tryz.prog ·))) = true := by kernel_rfl
theorem fact18 : ((Rows.fnExactLogOpenRow.wideKeys == (Tryz.f3.params.toList ++ Rows.fnExactLogOpenSpec.plain.varTypes Tryz.prog ++ Tryz.f3.resultTypes.toList).any (Program.wideKeysFrom Tryz.prog ·))) = true := by kernel_rfl
theorem fact19 : (Rows.fnExactLogOpenSpec.vars.all (Program.varReadable Tryz.prog ·)) = true := by kernel_rfl
theorem fact20 : (Tryz.f3.resultTypes.all (fun t => Tryz.prog.readableRec t && decide (t < Tryz.prog.types.size))) = true := by kernel_rfl
theorem fact21 : ((Rows.fnExactLogOpenRow.ifacesOut == Tryz.f3.resultTypes.toList.any (Program.ifacesRec Tryz.prog ·))) = true := by kernel_rfl
theorem fact22 : ((Rows.fnExactLogOpenRow.loopsOut == Tryz.f3.resultTypes.toList.any (Program.loopsFrom Tryz.prog ·))) = true := by kernel_rfl
theorem fact23 : ((Rows.fnExactLogOpenRow.plainKeys == Tryz.prog.plainKeys)) = true := by kernel_rfl
theorem fact24 : (Rows.fnExactLogOpenRow.shortTexts.isNone) = true := by kernel_rfl
theorem fact25 : (Tryz.prog.stopsHeard) = true := by kernel_rfl
theorem fact26 : (Tryz.prog.mayEnter) = true := by kernel_rfl
theorem fact27 : ((Rows.fnExactLogOpenRow.lifted == Tryz.prog.liftsFinal)) = true := by kernel_rfl
theorem fact28 : ((Tryz.prog.make == some Rows.fnExactLogOpenRow.make)) = true := by kernel_rfl
theorem fact29 : ((Rows.fnExactLogOpenRow.kinds == (if Rows.fnExactLogOpenRow.domain.isEmpty then [] else Tryz.f3.params.toList.map fun t => match Tryz.prog.underlying t with | some (.int k) => some k | _ => none))) = true := by kernel_rfl
theorem fact30 : ((Rows.fnExactLogOpenRow.pinned == Rows.fnExactLogOpenRow.pinnedBy)) = true := by kernel_rfl
theorem fact31 : ((Rows.fnExactLogOpenRow.veiled == (Tryz.f3.params.toList ++ Rows.fnExactLogOpenSpec.plain.varTypes Tryz.prog ++ Tryz.f3.resultTypes.toList).any (Program.veiledRec Tryz.prog ·))) = true := by kernel_rfl
theorem fact32 : (Rows.fnExactLogOpenRow.veiledFits Tryz.prog Tryz.f3.params.toList (Tryz.f3.params.toList ++ Rows.fnExactLogOpenSpec.plain.varTypes Tryz.prog ++ Tryz.f3.resultTypes.toList)) = true := by kernel_rfl
end Go.Proofs.YtddjgbhkfdpffaaGreatDoor.fnExactLogOpen
