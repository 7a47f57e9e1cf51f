/-
  What the program forces at FnExactLogWrites: closed facts, each by the kernel.
-/
import Derived.Test.YtddjgbhkfdpffaaGreatDoorRows
import Derived.JoinedOf
import Derived.Test.YtddjgbhkfdpffaaGreatDoorWStr
set_option linter.unusedVariables false
namespace Go.Proofs.YtddjgbhkfdpffaaGreatDoor.fnExactLogWrites
open Go.ChangeShapes Go.WideShapes Go.ChangeAt Go.RowKit

theorem fact1 : (Rows.fnExactLogWritesRow.wf (OpenSpec.ofChange Rows.fnExactLogWritesSpec)) = true := by kernel_rfl
theorem fact2 : (laidOutB Tryz.prog) = true := by kernel_rfl
theorem fact3 : (mapsRowed Tryz.prog) = true := by kernel_rfl
theorem fact4 : (Tryz.f4.params.all (Program.readableRec Tryz.prog ·)) = true := by kernel_rfl
theorem fact5 : (namedTie Tryz.prog Rows.fnExactLogWritesRow.named Rows.fnExactLogWritesSpec.vars) = true := by kernel_rfl
theorem fact6 : ((Rows.fnExactLogWritesRow.stops == [])) = true := by kernel_rfl
theorem fact7 : ((Tryz.prog.stops == [])) = true := by kernel_rfl
theorem fact8 : ((Rows.fnExactLogWritesRow.knobs == [])) = true := by kernel_rfl
theorem fact9 : ((Tryz.prog.stopKnobs == [])) = true := by kernel_rfl
theorem fact10 : ((Rows.fnExactLogWritesRow.inPlace == Tryz.prog.inPlace 4)) = true := by kernel_rfl
theorem fact11 : ((Rows.fnExactLogWritesRow.unfollowed == Tryz.prog.unfollowed 4)) = true := by kernel_rfl
theorem fact12 : ((Rows.fnExactLogWritesRow.recurses == Tryz.prog.recurses 4)) = true := by kernel_rfl
theorem fact13 : ((Rows.fnExactLogWritesRow.named == Tryz.prog.varsNamed 4)) = true := by kernel_rfl
theorem fact14 : ((Rows.fnExactLogWritesRow.maps == (Tryz.f4.params.toList ++ Rows.fnExactLogWritesSpec.plain.varTypes Tryz.prog).any (Program.mapsRec Tryz.prog ·))) = true := by kernel_rfl
theorem fact15 : ((Rows.fnExactLogWritesRow.ifaces == (Tryz.f4.params.toList ++ Rows.fnExactLogWritesSpec.plain.varTypes Tryz.prog).any (Program.ifacesRec Tryz.prog ·))) = true := by kernel_rfl
theorem fact16 : ((Rows.fnExactLogWritesRow.mapsOut == Tryz.prog.mapsAmong Tryz.f4.resultTypes.toList)) = true := by kernel_rfl
theorem fact17 : ((Rows.fnExactLogWritesRow.loops == (Tryz.f4.params.toList ++ Rows.fnExactLogWritesSpec.plain.varTypes Tryz.prog).any (Program.loopsFrom Tryz.prog ·))) = true := by kernel_rfl
theorem fact18 : ((Rows.fnExactLogWritesRow.wideKeys == (Tryz.f4.params.toList ++ Rows.fnExactLogWritesSpec.plain.varTypes Tryz.prog ++ Tryz.f4.resultTypes.toList).any (Program.wideKeysFrom Tryz.prog ·))) = true := by kernel_rfl
theorem fact19 : (Rows.fnExactLogWritesSpec.vars.all (Program.varReadable Tryz.prog ·)) = true := by kernel_rfl
theorem fact20 : (Tryz.f4.resultTypes.all (fun t => Tryz.prog.readableRec t && decide (t < Tryz.prog.types.size))) = true := by kernel_rfl
theorem fact21 : ((Rows.fnExactLogWritesRow.ifacesOut == Tryz.f4.resultTypes.toList.any (Program.ifacesRec Tryz.prog ·))) = true := by kernel_rfl
theorem fact22 : ((Rows.fnExactLogWritesRow.loopsOut == Tryz.f4.resultTypes.toList.any (Program.loopsFrom Tryz.prog ·))) = true := by kernel_rfl
theorem fact23 : ((Rows.fnExactLogWritesRow.plainKeys == Tryz.prog.plainKeys)) = true := by kernel_rfl
theorem fact24 : (Rows.fnExactLogWritesRow.shortTexts.isNone) = true := by kernel_rfl
theorem fact25 : (Tryz.prog.stopsHeard) = true := by kernel_rfl
theorem fact26 : (Tryz.prog.mayEnter) = true := by kernel_rfl
theorem fact27 : ((Rows.fnExactLogWritesRow.lifted == Tryz.prog.liftsFinal)) = true := by kernel_rfl
theorem fact28 : ((Tryz.prog.make == some Rows.fnExactLogWritesRow.make)) = true := by kernel_rfl
theorem fact29 : ((Rows.fnExactLogWritesRow.kinds == (if Rows.fnExactLogWritesRow.domain.isEmpty then [] else Tryz.f4.params.toList.map fun t => match Tryz.prog.underlying t with | some (.int k) => some k | _ => none))) = true := by kernel_rfl
theorem fact30 : ((Rows.fnExactLogWritesRow.pinned == Rows.fnExactLogWritesRow.pinnedBy)) = true := by kernel_rfl
theorem fact31 : ((Rows.fnExactLogWritesRow.veiled == (Tryz.f4.params.toList ++ Rows.fnExactLogWritesSpec.plain.varTypes Tryz.prog ++ Tryz.f4.resultTypes.toList).any (Program.veiledRec Tryz.prog ·))) = true := by kernel_rfl
theorem fact32 : (Rows.fnExactLogWritesRow.veiledFits Tryz.prog Tryz.f4.params.toList (Tryz.f4.params.toList ++ Rows.fnExactLogWritesSpec.plain.varTypes Tryz.prog ++ Tryz.f4.resultTypes.toList)) = true := by kernel_rfl
end Go.Proofs.YtddjgbhkfdpffaaGreatDoor.fnExactLogWrites
