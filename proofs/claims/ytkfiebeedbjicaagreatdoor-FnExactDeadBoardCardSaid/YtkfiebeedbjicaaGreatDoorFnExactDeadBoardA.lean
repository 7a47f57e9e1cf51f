/-
  What the program forces at FnExactDeadBoard: closed facts, each by the kernel.
-/
import Derived.Test.YtkfiebeedbjicaaGreatDoorRows
import Derived.Test.YtkfiebeedbjicaaGreatDoorStr
import Derived.JoinedOf
set_option linter.unusedVariables false
namespace Go.Proofs.YtkfiebeedbjicaaGreatDoor.fnExactDeadBoard
open Go.ChangeShapes Go.WideShapes Go.ChangeAt Go.RowKit

theorem fact1 : (Rows.fnExactDeadBoardRow.wf (OpenSpec.ofChange Rows.fnExactDeadBoardSpec)) = true := by kernel_rfl
theorem fact2 : (laidOutB Tryz.prog) = true := by kernel_rfl
theorem fact3 : (mapsRowed Tryz.prog) = true := by kernel_rfl
theorem fact4 : (Tryz.f3.params.all (Program.readableRec Tryz.prog ·)) = true := by kernel_rfl
theorem fact5 : (namedTie Tryz.prog Rows.fnExactDeadBoardRow.named Rows.fnExactDeadBoardSpec.vars) = true := by kernel_rfl
theorem fact6 : ((Rows.fnExactDeadBoardRow.stops == [])) = true := by kernel_rfl
theorem fact7 : ((Tryz.prog.stops == [])) = true := by kernel_rfl
theorem fact8 : ((Rows.fnExactDeadBoardRow.knobs == [])) = true := by kernel_rfl
theorem fact9 : ((Tryz.prog.stopKnobs == [])) = true := by kernel_rfl
theorem fact10 : ((Rows.fnExactDeadBoardRow.inPlace == Tryz.prog.inPlace 3)) = true := by kernel_rfl
theorem fact11 : ((Rows.fnExactDeadBoardRow.unfollowed == Tryz.prog.unfollowed 3)) = true := by kernel_rfl
theorem fact12 : ((Rows.fnExactDeadBoardRow.recurses == Tryz.prog.recurses 3)) = true := by kernel_rfl
theorem fact13 : ((Rows.fnExactDeadBoardRow.named == Tryz.prog.varsNamed 3)) = true := by kernel_rfl
theorem fact14 : ((Rows.fnExactDeadBoardRow.maps == (Tryz.f3.params.toList ++ Rows.fnExactDeadBoardSpec.plain.varTypes Tryz.prog).any (Program.mapsRec Tryz.prog ·))) = true := by kernel_rfl
theorem fact15 : ((Rows.fnExactDeadBoardRow.ifaces == (Tryz.f3.params.toList ++ Rows.fnExactDeadBoardSpec.plain.varTypes Tryz.prog).any (Program.ifacesRec Tryz.prog ·))) = true := by kernel_rfl
theorem fact16 : ((Rows.fnExactDeadBoardRow.mapsOut == Tryz.prog.mapsAmong Tryz.f3.resultTypes.toList)) = true := by kernel_rfl
theorem fact17 : ((Rows.fnExactDeadBoardRow.loops == (Tryz.f3.params.toList ++ Rows.fnExactDeadBoardSpec.plain.varTypes Tryz.prog).any (Program.loopsFrom Tryz.prog ·))) = true := by kernel_rfl
theorem fact18 : ((Rows.fnExactDeadBoardRow.wideKeys == (Tryz.f3.params.toList ++ Rows.fnExactDeadBoardSpec.plain.varTypes Tryz.prog ++ Tryz.f3.resultTypes.toList).any (Program.wideKeysFrom Tryz.prog ·))) = true := by kernel_rfl
theorem fact19 : (Rows.fnExactDeadBoardSpec.vars.all (Program.varReadable Tryz.prog ·)) = true := by kernel_rfl
theorem fact20 : (Tryz.f3.resultTypes.all (fun t => Tryz.prog.readableRec t && decide (t < Tryz.prog.types.size))) = true := by kernel_rfl
theorem fact21 : ((Rows.fnExactDeadBoardRow.ifacesOut == Tryz.f3.resultTypes.toList.any (Program.ifacesRec Tryz.prog ·))) = true := by kernel_rfl
theorem fact22 : ((Rows.fnExactDeadBoardRow.loopsOut == Tryz.f3.resultTypes.toList.any (Program.loopsFrom Tryz.prog ·))) = true := by kernel_rfl
theorem fact23 : ((Rows.fnExactDeadBoardRow.plainKeys == Tryz.prog.plainKeys)) = true := by kernel_rfl
theorem fact24 : (Rows.fnExactDeadBoardRow.shortTexts.isNone) = true := by kernel_rfl
theorem fact25 : (Tryz.prog.stopsHeard) = true := by kernel_rfl
theorem fact26 : (Tryz.prog.mayEnter) = true := by kernel_rfl
theorem fact27 : ((Rows.fnExactDeadBoardRow.lifted == Tryz.prog.liftsFinal)) = true := by kernel_rfl
theorem fact28 : ((Tryz.prog.make == some Rows.fnExactDeadBoardRow.make)) = true := by kernel_rfl
theorem fact29 : ((Rows.fnExactDeadBoardRow.kinds == (if Rows.fnExactDeadBoardRow.domain.isEmpty then [] else Tryz.f3.params.toList.map fun t => match Tryz.prog.underlying t with | some (.int k) => some k | _ => none))) = true := by kernel_rfl
theorem fact30 : ((Rows.fnExactDeadBoardRow.pinned == Rows.fnExactDeadBoardRow.pinnedBy)) = true := by kernel_rfl
theorem fact31 : ((Rows.fnExactDeadBoardRow.veiled == (Tryz.f3.params.toList ++ Rows.fnExactDeadBoardSpec.plain.varTypes Tryz.prog ++ Tryz.f3.resultTypes.toList).any (Program.veiledRec Tryz.prog ·))) = true := by kernel_rfl
theorem fact32 : (Rows.fnExactDeadBoardRow.veiledFits Tryz.prog Tryz.f3.params.toList (Tryz.f3.params.toList ++ Rows.fnExactDeadBoardSpec.plain.varTypes Tryz.prog ++ Tryz.f3.resultTypes.toList)) = true := by kernel_rfl
end Go.Proofs.YtkfiebeedbjicaaGreatDoor.fnExactDeadBoard
