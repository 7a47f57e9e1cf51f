/-
  What the program forces at FnExactCrewLeft: closed facts, each by the kernel.
-/
import Derived.Test.YtpkjjfnfolbcoaaRows
import Derived.Test.YtpkjjfnfolbcoaaStr
import Derived.JoinedOf
set_option linter.unusedVariables false
namespace Go.Proofs.Ytpkjjfnfolbcoaa.fnExactCrewLeft
open Go.ChangeShapes Go.WideShapes Go.ChangeAt Go.RowKit

theorem fact1 : (Rows.fnExactCrewLeftRow.wf (OpenSpec.ofChange Rows.fnExactCrewLeftSpec)) = true := by kernel_rfl
theorem fact2 : (laidOutB Try.prog) = true := by kernel_rfl
theorem fact3 : (mapsRowed Try.prog) = true := by kernel_rfl
theorem fact4 : (Try.f5.params.all (Program.readableRec Try.prog ·)) = true := by kernel_rfl
theorem fact5 : (namedTie Try.prog Rows.fnExactCrewLeftRow.named Rows.fnExactCrewLeftSpec.vars) = true := by kernel_rfl
theorem fact6 : ((Rows.fnExactCrewLeftRow.stops == [])) = true := by kernel_rfl
theorem fact7 : ((Try.prog.stops == [])) = true := by kernel_rfl
theorem fact8 : ((Rows.fnExactCrewLeftRow.knobs == [])) = true := by kernel_rfl
theorem fact9 : ((Try.prog.stopKnobs == [])) = true := by kernel_rfl
theorem fact10 : ((Rows.fnExactCrewLeftRow.inPlace == Try.prog.inPlace 5)) = true := by kernel_rfl
theorem fact11 : ((Rows.fnExactCrewLeftRow.unfollowed == Try.prog.unfollowed 5)) = true := by kernel_rfl
theorem fact12 : ((Rows.fnExactCrewLeftRow.recurses == Try.prog.recurses 5)) = true := by kernel_rfl
theorem fact13 : ((Rows.fnExactCrewLeftRow.named == Try.prog.varsNamed 5)) = true := by kernel_rfl
theorem fact14 : ((Rows.fnExactCrewLeftRow.maps == (Try.f5.params.toList ++ Rows.fnExactCrewLeftSpec.plain.varTypes Try.prog).any (Program.mapsRec Try.prog ·))) = true := by kernel_rfl
theorem fact15 : ((Rows.fnExactCrewLeftRow.ifaces == (Try.f5.params.toList ++ Rows.fnExactCrewLeftSpec.plain.varTypes Try.prog).any (Program.ifacesRec Try.prog ·))) = true := by kernel_rfl
theorem fact16 : ((Rows.fnExactCrewLeftRow.mapsOut == Try.prog.mapsAmong Try.f5.resultTypes.toList)) = true := by kernel_rfl
theorem fact17 : ((Rows.fnExactCrewLeftRow.loops == (Try.f5.params.toList ++ Rows.fnExactCrewLeftSpec.plain.varTypes Try.prog).any (Program.loopsFrom Try.prog ·))) = true := by kernel_rfl
theorem fact18 : ((Rows.fnExactCrewLeftRow.wideKeys == (Try.f5.params.toList ++ Rows.fnExactCrewLeftSpec.plain.varTypes Try.prog ++ Try.f5.resultTypes.toList).any (Program.wideKeysFrom Try.prog ·))) = true := by kernel_rfl
theorem fact19 : (Rows.fnExactCrewLeftSpec.vars.all (Program.varReadable Try.prog ·)) = true := by kernel_rfl
theorem fact20 : (Try.f5.resultTypes.all (fun t => Try.prog.readableRec t && decide (t < Try.prog.types.size))) = true := by kernel_rfl
theorem fact21 : ((Rows.fnExactCrewLeftRow.ifacesOut == Try.f5.resultTypes.toList.any (Program.ifacesRec Try.prog ·))) = true := by kernel_rfl
theorem fact22 : ((Rows.fnExactCrewLeftRow.loopsOut == Try.f5.resultTypes.toList.any (Program.loopsFrom Try.prog ·))) = true := by kernel_rfl
theorem fact23 : ((Rows.fnExactCrewLeftRow.plainKeys == Try.prog.plainKeys)) = true := by kernel_rfl
theorem fact24 : (Rows.fnExactCrewLeftRow.shortTexts.isNone) = true := by kernel_rfl
theorem fact25 : (Try.prog.stopsHeard) = true := by kernel_rfl
theorem fact26 : (Try.prog.mayEnter) = true := by kernel_rfl
theorem fact27 : ((Rows.fnExactCrewLeftRow.lifted == Try.prog.liftsFinal)) = true := by kernel_rfl
theorem fact28 : ((Try.prog.make == some Rows.fnExactCrewLeftRow.make)) = true := by kernel_rfl
theorem fact29 : ((Rows.fnExactCrewLeftRow.kinds == (if Rows.fnExactCrewLeftRow.domain.isEmpty then [] else Try.f5.params.toList.map fun t => match Try.prog.underlying t with | some (.int k) => some k | _ => none))) = true := by kernel_rfl
theorem fact30 : ((Rows.fnExactCrewLeftRow.pinned == Rows.fnExactCrewLeftRow.pinnedBy)) = true := by kernel_rfl
theorem fact31 : ((Rows.fnExactCrewLeftRow.veiled == (Try.f5.params.toList ++ Rows.fnExactCrewLeftSpec.plain.varTypes Try.prog ++ Try.f5.resultTypes.toList).any (Program.veiledRec Try.prog ·))) = true := by kernel_rfl
theorem fact32 : (Rows.fnExactCrewLeftRow.veiledFits Try.prog Try.f5.params.toList (Try.f5.params.toList ++ Rows.fnExactCrewLeftSpec.plain.varTypes Try.prog ++ Try.f5.resultTypes.toList)) = true := by kernel_rfl
end Go.Proofs.Ytpkjjfnfolbcoaa.fnExactCrewLeft
