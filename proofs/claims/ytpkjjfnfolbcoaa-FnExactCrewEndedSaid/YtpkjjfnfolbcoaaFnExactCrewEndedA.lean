/-
  What the program forces at FnExactCrewEnded: closed facts, each by the kernel.
-/
import Derived.Test.YtpkjjfnfolbcoaaRows
import Derived.Test.YtpkjjfnfolbcoaaStr
import Derived.JoinedOf
set_option linter.unusedVariables false
namespace Go.Proofs.Ytpkjjfnfolbcoaa.fnExactCrewEnded
open Go.ChangeShapes Go.WideShapes Go.ChangeAt Go.RowKit

theorem fact1 : (Rows.fnExactCrewEndedRow.wf (OpenSpec.ofChange Rows.fnExactCrewEndedSpec)) = true := by kernel_rfl
theorem fact2 : (laidOutB Try.prog) = true := by kernel_rfl
theorem fact3 : (mapsRowed Try.prog) = true := by kernel_rfl
theorem fact4 : (Try.f4.params.all (Program.readableRec Try.prog ·)) = true := by kernel_rfl
theorem fact5 : (namedTie Try.prog Rows.fnExactCrewEndedRow.named Rows.fnExactCrewEndedSpec.vars) = true := by kernel_rfl
theorem fact6 : ((Rows.fnExactCrewEndedRow.stops == [])) = true := by kernel_rfl
theorem fact7 : ((Try.prog.stops == [])) = true := by kernel_rfl
theorem fact8 : ((Rows.fnExactCrewEndedRow.knobs == [])) = true := by kernel_rfl
theorem fact9 : ((Try.prog.stopKnobs == [])) = true := by kernel_rfl
theorem fact10 : ((Rows.fnExactCrewEndedRow.inPlace == Try.prog.inPlace 4)) = true := by kernel_rfl
theorem fact11 : ((Rows.fnExactCrewEndedRow.unfollowed == Try.prog.unfollowed 4)) = true := by kernel_rfl
theorem fact12 : ((Rows.fnExactCrewEndedRow.recurses == Try.prog.recurses 4)) = true := by kernel_rfl
theorem fact13 : ((Rows.fnExactCrewEndedRow.named == Try.prog.varsNamed 4)) = true := by kernel_rfl
theorem fact14 : ((Rows.fnExactCrewEndedRow.maps == (Try.f4.params.toList ++ Rows.fnExactCrewEndedSpec.plain.varTypes Try.prog).any (Program.mapsRec Try.prog ·))) = true := by kernel_rfl
theorem fact15 : ((Rows.fnExactCrewEndedRow.ifaces == (Try.f4.params.toList ++ Rows.fnExactCrewEndedSpec.plain.varTypes Try.prog).any (Program.ifacesRec Try.prog ·))) = true := by kernel_rfl
theorem fact16 : ((Rows.fnExactCrewEndedRow.mapsOut == Try.prog.mapsAmong Try.f4.resultTypes.toList)) = true := by kernel_rfl
theorem fact17 : ((Rows.fnExactCrewEndedRow.loops == (Try.f4.params.toList ++ Rows.fnExactCrewEndedSpec.plain.varTypes Try.prog).any (Program.loopsFrom Try.prog ·))) = true := by kernel_rfl
theorem fact18 : ((Rows.fnExactCrewEndedRow.wideKeys == (Try.f4.params.toList ++ Rows.fnExactCrewEndedSpec.plain.varTypes Try.prog ++ Try.f4.resultTypes.toList).any (Program.wideKeysFrom Try.prog ·))) = true := by kernel_rfl
theorem fact19 : (Rows.fnExactCrewEndedSpec.vars.all (Program.varReadable Try.prog ·)) = true := by kernel_rfl
theorem fact20 : (Try.f4.resultTypes.all (fun t => Try.prog.readableRec t && decide (t < Try.prog.types.size))) = true := by kernel_rfl
theorem fact21 : ((Rows.fnExactCrewEndedRow.ifacesOut == Try.f4.resultTypes.toList.any (Program.ifacesRec Try.prog ·))) = true := by kernel_rfl
theorem fact22 : ((Rows.fnExactCrewEndedRow.loopsOut == Try.f4.resultTypes.toList.any (Program.loopsFrom Try.prog ·))) = true := by kernel_rfl
theorem fact23 : ((Rows.fnExactCrewEndedRow.plainKeys == Try.prog.plainKeys)) = true := by kernel_rfl
theorem fact24 : (Rows.fnExactCrewEndedRow.shortTexts.isNone) = true := by kernel_rfl
theorem fact25 : (Try.prog.stopsHeard) = true := by kernel_rfl
theorem fact26 : (Try.prog.mayEnter) = true := by kernel_rfl
theorem fact27 : ((Rows.fnExactCrewEndedRow.lifted == Try.prog.liftsFinal)) = true := by kernel_rfl
theorem fact28 : ((Try.prog.make == some Rows.fnExactCrewEndedRow.make)) = true := by kernel_rfl
theorem fact29 : ((Rows.fnExactCrewEndedRow.kinds == (if Rows.fnExactCrewEndedRow.domain.isEmpty then [] else Try.f4.params.toList.map fun t => match Try.prog.underlying t with | some (.int k) => some k | _ => none))) = true := by kernel_rfl
theorem fact30 : ((Rows.fnExactCrewEndedRow.pinned == Rows.fnExactCrewEndedRow.pinnedBy)) = true := by kernel_rfl
theorem fact31 : ((Rows.fnExactCrewEndedRow.veiled == (Try.f4.params.toList ++ Rows.fnExactCrewEndedSpec.plain.varTypes Try.prog ++ Try.f4.resultTypes.toList).any (Program.veiledRec Try.prog ·))) = true := by kernel_rfl
theorem fact32 : (Rows.fnExactCrewEndedRow.veiledFits Try.prog Try.f4.params.toList (Try.f4.params.toList ++ Rows.fnExactCrewEndedSpec.plain.varTypes Try.prog ++ Try.f4.resultTypes.toList)) = true := by kernel_rfl
end Go.Proofs.Ytpkjjfnfolbcoaa.fnExactCrewEnded
