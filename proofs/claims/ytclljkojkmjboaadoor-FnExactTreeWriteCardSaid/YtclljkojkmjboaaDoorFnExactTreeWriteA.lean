/-
  What the program forces at FnExactTreeWrite: closed facts, each by the kernel.
-/
import Derived.Test.YtclljkojkmjboaaDoorRows
import Derived.Test.YtclljkojkmjboaaDoorStr
import Derived.JoinedOf
set_option linter.unusedVariables false
namespace Go.Proofs.YtclljkojkmjboaaDoor.fnExactTreeWrite
open Go.ChangeShapes Go.WideShapes Go.ChangeAt Go.RowKit

theorem fact1 : (Rows.fnExactTreeWriteRow.wf (OpenSpec.ofChange Rows.fnExactTreeWriteSpec)) = true := by kernel_rfl
theorem fact2 : (laidOutB Tryd.prog) = true := by kernel_rfl
theorem fact3 : (mapsRowed Tryd.prog) = true := by kernel_rfl
theorem fact4 : (Tryd.f4.params.all (Program.readableRec Tryd.prog ·)) = true := by kernel_rfl
theorem fact5 : (namedTie Tryd.prog Rows.fnExactTreeWriteRow.named Rows.fnExactTreeWriteSpec.vars) = true := by kernel_rfl
theorem fact6 : ((Rows.fnExactTreeWriteRow.stops == [])) = true := by kernel_rfl
theorem fact7 : ((Tryd.prog.stops == [])) = true := by kernel_rfl
theorem fact8 : ((Rows.fnExactTreeWriteRow.knobs == [])) = true := by kernel_rfl
theorem fact9 : ((Tryd.prog.stopKnobs == [])) = true := by kernel_rfl
theorem fact10 : ((Rows.fnExactTreeWriteRow.inPlace == Tryd.prog.inPlace 4)) = true := by kernel_rfl
theorem fact11 : ((Rows.fnExactTreeWriteRow.unfollowed == Tryd.prog.unfollowed 4)) = true := by kernel_rfl
theorem fact12 : ((Rows.fnExactTreeWriteRow.recurses == Tryd.prog.recurses 4)) = true := by kernel_rfl
theorem fact13 : ((Rows.fnExactTreeWriteRow.named == Tryd.prog.varsNamed 4)) = true := by kernel_rfl
theorem fact14 : ((Rows.fnExactTreeWriteRow.maps == (Tryd.f4.params.toList ++ Rows.fnExactTreeWriteSpec.plain.varTypes Tryd.prog).any (Program.mapsRec Tryd.prog ·))) = true := by kernel_rfl
theorem fact15 : ((Rows.fnExactTreeWriteRow.ifaces == (Tryd.f4.params.toList ++ Rows.fnExactTreeWriteSpec.plain.varTypes Tryd.prog).any (Program.ifacesRec Tryd.prog ·))) = true := by kernel_rfl
theorem fact16 : ((Rows.fnExactTreeWriteRow.mapsOut == Tryd.prog.mapsAmong Tryd.f4.resultTypes.toList)) = true := by kernel_rfl
theorem fact17 : ((Rows.fnExactTreeWriteRow.loops == (Tryd.f4.params.toList ++ Rows.fnExactTreeWriteSpec.plain.varTypes Tryd.prog).any (Program.loopsFrom Tryd.prog ·))) = true := by kernel_rfl
theorem fact18 : ((Rows.fnExactTreeWriteRow.wideKeys == (Tryd.f4.params.toList ++ Rows.fnExactTreeWriteSpec.plain.varTypes Tryd.prog ++ Tryd.f4.resultTypes.toList).any (Program.wideKeysFrom Tryd.prog ·))) = true := by kernel_rfl
theorem fact19 : (Rows.fnExactTreeWriteSpec.vars.all (Program.varReadable Tryd.prog ·)) = true := by kernel_rfl
theorem fact20 : (Tryd.f4.resultTypes.all (fun t => Tryd.prog.readableRec t && decide (t < Tryd.prog.types.size))) = true := by kernel_rfl
theorem fact21 : ((Rows.fnExactTreeWriteRow.ifacesOut == Tryd.f4.resultTypes.toList.any (Program.ifacesRec Tryd.prog ·))) = true := by kernel_rfl
theorem fact22 : ((Rows.fnExactTreeWriteRow.loopsOut == Tryd.f4.resultTypes.toList.any (Program.loopsFrom Tryd.prog ·))) = true := by kernel_rfl
theorem fact23 : ((Rows.fnExactTreeWriteRow.plainKeys == Tryd.prog.plainKeys)) = true := by kernel_rfl
theorem fact24 : (Rows.fnExactTreeWriteRow.shortTexts.isNone) = true := by kernel_rfl
theorem fact25 : (Tryd.prog.stopsHeard) = true := by kernel_rfl
theorem fact26 : (Tryd.prog.mayEnter) = true := by kernel_rfl
theorem fact27 : ((Rows.fnExactTreeWriteRow.lifted == Tryd.prog.liftsFinal)) = true := by kernel_rfl
theorem fact28 : ((Tryd.prog.make == some Rows.fnExactTreeWriteRow.make)) = true := by kernel_rfl
theorem fact29 : ((Rows.fnExactTreeWriteRow.kinds == (if Rows.fnExactTreeWriteRow.domain.isEmpty then [] else Tryd.f4.params.toList.map fun t => match Tryd.prog.underlying t with | some (.int k) => some k | _ => none))) = true := by kernel_rfl
theorem fact30 : ((Rows.fnExactTreeWriteRow.pinned == Rows.fnExactTreeWriteRow.pinnedBy)) = true := by kernel_rfl
theorem fact31 : ((Rows.fnExactTreeWriteRow.veiled == (Tryd.f4.params.toList ++ Rows.fnExactTreeWriteSpec.plain.varTypes Tryd.prog ++ Tryd.f4.resultTypes.toList).any (Program.veiledRec Tryd.prog ·))) = true := by kernel_rfl
theorem fact32 : (Rows.fnExactTreeWriteRow.veiledFits Tryd.prog Tryd.f4.params.toList (Tryd.f4.params.toList ++ Rows.fnExactTreeWriteSpec.plain.varTypes Tryd.prog ++ Tryd.f4.resultTypes.toList)) = true := by kernel_rfl
end Go.Proofs.YtclljkojkmjboaaDoor.fnExactTreeWrite
