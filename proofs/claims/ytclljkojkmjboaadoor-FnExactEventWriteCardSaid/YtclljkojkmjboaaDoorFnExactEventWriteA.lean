/-
  What the program forces at FnExactEventWrite: closed facts, each by the kernel.
-/
import Derived.Test.YtclljkojkmjboaaDoorRows
import Derived.Test.YtclljkojkmjboaaDoorStr
import Derived.JoinedOf
set_option linter.unusedVariables false
namespace Go.Proofs.YtclljkojkmjboaaDoor.fnExactEventWrite
open Go.ChangeShapes Go.WideShapes Go.ChangeAt Go.RowKit

theorem fact1 : (Rows.fnExactEventWriteRow.wf (OpenSpec.ofChange Rows.fnExactEventWriteSpec)) = true := by kernel_rfl
theorem fact2 : (laidOutB Tryd.prog) = true := by kernel_rfl
theorem fact3 : (mapsRowed Tryd.prog) = true := by kernel_rfl
theorem fact4 : (Tryd.f5.params.all (Program.readableRec Tryd.prog ·)) = true := by kernel_rfl
theorem fact5 : (namedTie Tryd.prog Rows.fnExactEventWriteRow.named Rows.fnExactEventWriteSpec.vars) = true := by kernel_rfl
theorem fact6 : ((Rows.fnExactEventWriteRow.stops == [])) = true := by kernel_rfl
theorem fact7 : ((Tryd.prog.stops == [])) = true := by kernel_rfl
theorem fact8 : ((Rows.fnExactEventWriteRow.knobs == [])) = true := by kernel_rfl
theorem fact9 : ((Tryd.prog.stopKnobs == [])) = true := by kernel_rfl
theorem fact10 : ((Rows.fnExactEventWriteRow.inPlace == Tryd.prog.inPlace 5)) = true := by kernel_rfl
theorem fact11 : ((Rows.fnExactEventWriteRow.unfollowed == Tryd.prog.unfollowed 5)) = true := by kernel_rfl
theorem fact12 : ((Rows.fnExactEventWriteRow.recurses == Tryd.prog.recurses 5)) = true := by kernel_rfl
theorem fact13 : ((Rows.fnExactEventWriteRow.named == Tryd.prog.varsNamed 5)) = true := by kernel_rfl
theorem fact14 : ((Rows.fnExactEventWriteRow.maps == (Tryd.f5.params.toList ++ Rows.fnExactEventWriteSpec.plain.varTypes Tryd.prog).any (Program.mapsRec Tryd.prog ·))) = true := by kernel_rfl
theorem fact15 : ((Rows.fnExactEventWriteRow.ifaces == (Tryd.f5.params.toList ++ Rows.fnExactEventWriteSpec.plain.varTypes Tryd.prog).any (Program.ifacesRec Tryd.prog ·))) = true := by kernel_rfl
theorem fact16 : ((Rows.fnExactEventWriteRow.mapsOut == Tryd.prog.mapsAmong Tryd.f5.resultTypes.toList)) = true := by kernel_rfl
theorem fact17 : ((Rows.fnExactEventWriteRow.loops == (Tryd.f5.params.toList ++ Rows.fnExactEventWriteSpec.plain.varTypes Tryd.prog).any (Program.loopsFrom Tryd.prog ·))) = true := by kernel_rfl
theorem fact18 : ((Rows.fnExactEventWriteRow.wideKeys == (Tryd.f5.params.toList ++ Rows.fnExactEventWriteSpec.plain.varTypes Tryd.prog ++ Tryd.f5.resultTypes.toList).any (Program.wideKeysFrom Tryd.prog ·))) = true := by kernel_rfl
theorem fact19 : (Rows.fnExactEventWriteSpec.vars.all (Program.varReadable Tryd.prog ·)) = true := by kernel_rfl
theorem fact20 : (Tryd.f5.resultTypes.all (fun t => Tryd.prog.readableRec t && decide (t < Tryd.prog.types.size))) = true := by kernel_rfl
theorem fact21 : ((Rows.fnExactEventWriteRow.ifacesOut == Tryd.f5.resultTypes.toList.any (Program.ifacesRec Tryd.prog ·))) = true := by kernel_rfl
theorem fact22 : ((Rows.fnExactEventWriteRow.loopsOut == Tryd.f5.resultTypes.toList.any (Program.loopsFrom Tryd.prog ·))) = true := by kernel_rfl
theorem fact23 : ((Rows.fnExactEventWriteRow.plainKeys == Tryd.prog.plainKeys)) = true := by kernel_rfl
theorem fact24 : (Rows.fnExactEventWriteRow.shortTexts.isNone) = true := by kernel_rfl
theorem fact25 : (Tryd.prog.stopsHeard) = true := by kernel_rfl
theorem fact26 : (Tryd.prog.mayEnter) = true := by kernel_rfl
theorem fact27 : ((Rows.fnExactEventWriteRow.lifted == Tryd.prog.liftsFinal)) = true := by kernel_rfl
theorem fact28 : ((Tryd.prog.make == some Rows.fnExactEventWriteRow.make)) = true := by kernel_rfl
theorem fact29 : ((Rows.fnExactEventWriteRow.kinds == (if Rows.fnExactEventWriteRow.domain.isEmpty then [] else Tryd.f5.params.toList.map fun t => match Tryd.prog.underlying t with | some (.int k) => some k | _ => none))) = true := by kernel_rfl
theorem fact30 : ((Rows.fnExactEventWriteRow.pinned == Rows.fnExactEventWriteRow.pinnedBy)) = true := by kernel_rfl
theorem fact31 : ((Rows.fnExactEventWriteRow.veiled == (Tryd.f5.params.toList ++ Rows.fnExactEventWriteSpec.plain.varTypes Tryd.prog ++ Tryd.f5.resultTypes.toList).any (Program.veiledRec Tryd.prog ·))) = true := by kernel_rfl
theorem fact32 : (Rows.fnExactEventWriteRow.veiledFits Tryd.prog Tryd.f5.params.toList (Tryd.f5.params.toList ++ Rows.fnExactEventWriteSpec.plain.varTypes Tryd.prog ++ Tryd.f5.resultTypes.toList)) = true := by kernel_rfl
end Go.Proofs.YtclljkojkmjboaaDoor.fnExactEventWrite
