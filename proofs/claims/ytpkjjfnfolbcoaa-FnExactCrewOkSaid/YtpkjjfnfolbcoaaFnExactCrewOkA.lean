/-
  What the program forces at FnExactCrewOk: closed facts, each by the kernel.
-/
import Derived.Test.YtpkjjfnfolbcoaaRows
import Derived.Test.YtpkjjfnfolbcoaaStr
import Derived.JoinedOf
set_option linter.unusedVariables false
namespace Go.Proofs.Ytpkjjfnfolbcoaa.fnExactCrewOk
open Go.ChangeShapes Go.WideShapes Go.ChangeAt Go.RowKit

theorem fact1 : (Rows.fnExactCrewOkRow.wf (OpenSpec.ofChange Rows.fnExactCrewOkSpec)) = true := by kernel_rfl
theorem fact2 : (laidOutB Try.prog) = true := by kernel_rfl
theorem fact3 : (mapsRowed Try.prog) = true := by kernel_rfl
theorem fact4 : (Try.f3.params.all (Program.readableRec Try.prog ·)) = true := by kernel_rfl
theorem fact5 : (namedTie Try.prog Rows.fnExactCrewOkRow.named Rows.fnExactCrewOkSpec.vars) = true := by kernel_rfl
theorem fact6 : ((Rows.fnExactCrewOkRow.stops == [])) = true := by kernel_rfl
theorem fact7 : ((Try.prog.stops == [])) = true := by kernel_rfl
theorem fact8 : ((Rows.fnExactCrewOkRow.knobs == [])) = true := by kernel_rfl
theorem fact9 : ((Try.prog.stopKnobs == [])) = true := by kernel_rfl
theorem fact10 : ((Rows.fnExactCrewOkRow.inPlace == Try.prog.inPlace 3)) = true := by kernel_rfl
theorem fact11 : ((Rows.fnExactCrewOkRow.unfollowed == Try.prog.unfollowed 3)) = true := by kernel_rfl
theorem fact12 : ((Rows.fnExactCrewOkRow.recurses == Try.prog.recurses 3)) = true := by kernel_rfl
theorem fact13 : ((Rows.fnExactCrewOkRow.named == Try.prog.varsNamed 3)) = true := by kernel_rfl
theorem fact14 : ((Rows.fnExactCrewOkRow.maps == (Try.f3.params.toList ++ Rows.fnExactCrewOkSpec.plain.varTypes Try.prog).any (Program.mapsRec Try.prog ·))) = true := by kernel_rfl
theorem fact15 : ((Rows.fnExactCrewOkRow.ifaces == (Try.f3.params.toList ++ Rows.fnExactCrewOkSpec.plain.varTypes Try.prog).any (Program.ifacesRec Try.prog ·))) = true := by kernel_rfl
theorem fact16 : ((Rows.fnExactCrewOkRow.mapsOut == Try.prog.mapsAmong Try.f3.resultTypes.toList)) = true := by kernel_rfl
theorem fact17 : ((Rows.fnExactCrewOkRow.loops == (Try.f3.params.toList ++ Rows.fnExactCrewOkSpec.plain.varTypes Try.prog).any (Program.loopsFrom Try.prog ·))) = true := by kernel_rfl
theorem fact18 : ((Rows.fnExactCrewOkRow.wideKeys == (Try.f3.params.toList ++ Rows.fnExactCrewOkSpec.plain.varTypes Try.prog ++ Try.f3.resultTypes.toList).any (Program.wideKeysFrom Try.prog ·))) = true := by kernel_rfl
theorem fact19 : (Rows.fnExactCrewOkSpec.vars.all (Program.varReadable Try.prog ·)) = true := by kernel_rfl
theorem fact20 : (Try.f3.resultTypes.all (fun t => Try.prog.readableRec t && decide (t < Try.prog.types.size))) = true := by kernel_rfl
theorem fact21 : ((Rows.fnExactCrewOkRow.ifacesOut == Try.f3.resultTypes.toList.any (Program.ifacesRec Try.prog ·))) = true := by kernel_rfl
theorem fact22 : ((Rows.fnExactCrewOkRow.loopsOut == Try.f3.resultTypes.toList.any (Program.loopsFrom Try.prog ·))) = true := by kernel_rfl
theorem fact23 : ((Rows.fnExactCrewOkRow.plainKeys == Try.prog.plainKeys)) = true := by kernel_rfl
theorem fact24 : (Rows.fnExactCrewOkRow.shortTexts.isNone) = true := by kernel_rfl
theorem fact25 : (Try.prog.stopsHeard) = true := by kernel_rfl
theorem fact26 : (Try.prog.mayEnter) = true := by kernel_rfl
theorem fact27 : ((Rows.fnExactCrewOkRow.lifted == Try.prog.liftsFinal)) = true := by kernel_rfl
theorem fact28 : ((Try.prog.make == some Rows.fnExactCrewOkRow.make)) = true := by kernel_rfl
theorem fact29 : ((Rows.fnExactCrewOkRow.kinds == (if Rows.fnExactCrewOkRow.domain.isEmpty then [] else Try.f3.params.toList.map fun t => match Try.prog.underlying t with | some (.int k) => some k | _ => none))) = true := by kernel_rfl
theorem fact30 : ((Rows.fnExactCrewOkRow.pinned == Rows.fnExactCrewOkRow.pinnedBy)) = true := by kernel_rfl
theorem fact31 : ((Rows.fnExactCrewOkRow.veiled == (Try.f3.params.toList ++ Rows.fnExactCrewOkSpec.plain.varTypes Try.prog ++ Try.f3.resultTypes.toList).any (Program.veiledRec Try.prog ·))) = true := by kernel_rfl
theorem fact32 : (Rows.fnExactCrewOkRow.veiledFits Try.prog Try.f3.params.toList (Try.f3.params.toList ++ Rows.fnExactCrewOkSpec.plain.varTypes Try.prog ++ Try.f3.resultTypes.toList)) = true := by kernel_rfl
end Go.Proofs.Ytpkjjfnfolbcoaa.fnExactCrewOk
