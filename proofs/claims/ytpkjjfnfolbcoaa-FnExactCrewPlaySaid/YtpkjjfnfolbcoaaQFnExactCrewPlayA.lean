/-
  What the program forces at FnExactCrewPlay: closed facts, each by the kernel.
-/
import Derived.Test.YtpkjjfnfolbcoaaRows
import Derived.JoinedOf
import Derived.Test.YtpkjjfnfolbcoaaQStr
set_option linter.unusedVariables false
namespace Go.Proofs.Ytpkjjfnfolbcoaa.fnExactCrewPlay
open Go.ChangeShapes Go.WideShapes Go.ChangeAt Go.RowKit

theorem fact1 : (Rows.fnExactCrewPlayRow.wf (OpenSpec.ofChange Rows.fnExactCrewPlaySpec)) = true := by kernel_rfl
theorem fact2 : (laidOutB Try.prog) = true := by kernel_rfl
theorem fact3 : (mapsRowed Try.prog) = true := by kernel_rfl
theorem fact4 : (Try.f7.params.all (Program.readableRec Try.prog ·)) = true := by kernel_rfl
theorem fact5 : (namedTie Try.prog Rows.fnExactCrewPlayRow.named Rows.fnExactCrewPlaySpec.vars) = true := by kernel_rfl
theorem fact6 : ((Rows.fnExactCrewPlayRow.stops == [])) = true := by kernel_rfl
theorem fact7 : ((Try.prog.stops == [])) = true := by kernel_rfl
theorem fact8 : ((Rows.fnExactCrewPlayRow.knobs == [])) = true := by kernel_rfl
theorem fact9 : ((Try.prog.stopKnobs == [])) = true := by kernel_rfl
theorem fact10 : ((Rows.fnExactCrewPlayRow.inPlace == Try.prog.inPlace 7)) = true := by kernel_rfl
theorem fact11 : ((Rows.fnExactCrewPlayRow.unfollowed == Try.prog.unfollowed 7)) = true := by kernel_rfl
theorem fact12 : ((Rows.fnExactCrewPlayRow.recurses == Try.prog.recurses 7)) = true := by kernel_rfl
theorem fact13 : ((Rows.fnExactCrewPlayRow.named == Try.prog.varsNamed 7)) = true := by kernel_rfl
theorem fact14 : ((Rows.fnExactCrewPlayRow.maps == (Try.f7.params.toList ++ Rows.fnExactCrewPlaySpec.plain.varTypes Try.prog).any (Program.mapsRec Try.prog ·))) = true := by kernel_rfl
theorem fact15 : ((Rows.fnExactCrewPlayRow.ifaces == (Try.f7.params.toList ++ Rows.fnExactCrewPlaySpec.plain.varTypes Try.prog).any (Program.ifacesRec Try.prog ·))) = true := by kernel_rfl
theorem fact16 : ((Rows.fnExactCrewPlayRow.mapsOut == Try.prog.mapsAmong Try.f7.resultTypes.toList)) = true := by kernel_rfl
theorem fact17 : ((Rows.fnExactCrewPlayRow.loops == (Try.f7.params.toList ++ Rows.fnExactCrewPlaySpec.plain.varTypes Try.prog).any (Program.loopsFrom Try.prog ·))) = true := by kernel_rfl
theorem fact18 : ((Rows.fnExactCrewPlayRow.wideKeys == (Try.f7.params.toList ++ Rows.fnExactCrewPlaySpec.plain.varTypes Try.prog ++ Try.f7.resultTypes.toList).any (Program.wideKeysFrom Try.prog ·))) = true := by kernel_rfl
theorem fact19 : (Rows.fnExactCrewPlaySpec.vars.all (Program.varReadable Try.prog ·)) = true := by kernel_rfl
theorem fact20 : (Try.f7.resultTypes.all (fun t => Try.prog.readableRec t && decide (t < Try.prog.types.size))) = true := by kernel_rfl
theorem fact21 : ((Rows.fnExactCrewPlayRow.ifacesOut == Try.f7.resultTypes.toList.any (Program.ifacesRec Try.prog ·))) = true := by kernel_rfl
theorem fact22 : ((Rows.fnExactCrewPlayRow.loopsOut == Try.f7.resultTypes.toList.any (Program.loopsFrom Try.prog ·))) = true := by kernel_rfl
theorem fact23 : ((Rows.fnExactCrewPlayRow.plainKeys == Try.prog.plainKeys)) = true := by kernel_rfl
theorem fact24 : (Rows.fnExactCrewPlayRow.shortTexts.isNone) = true := by kernel_rfl
theorem fact25 : (Try.prog.stopsHeard) = true := by kernel_rfl
theorem fact26 : (Try.prog.mayEnter) = true := by kernel_rfl
theorem fact27 : ((Rows.fnExactCrewPlayRow.lifted == Try.prog.liftsFinal)) = true := by kernel_rfl
theorem fact28 : ((Try.prog.make == some Rows.fnExactCrewPlayRow.make)) = true := by kernel_rfl
theorem fact29 : ((Rows.fnExactCrewPlayRow.kinds == (if Rows.fnExactCrewPlayRow.domain.isEmpty then [] else Try.f7.params.toList.map fun t => match Try.prog.underlying t with | some (.int k) => some k | _ => none))) = true := by kernel_rfl
theorem fact30 : ((Rows.fnExactCrewPlayRow.pinned == Rows.fnExactCrewPlayRow.pinnedBy)) = true := by kernel_rfl
theorem fact31 : ((Rows.fnExactCrewPlayRow.veiled == (Try.f7.params.toList ++ Rows.fnExactCrewPlaySpec.plain.varTypes Try.prog ++ Try.f7.resultTypes.toList).any (Program.veiledRec Try.prog ·))) = true := by kernel_rfl
theorem fact32 : (Rows.fnExactCrewPlayRow.veiledFits Try.prog Try.f7.params.toList (Try.f7.params.toList ++ Rows.fnExactCrewPlaySpec.plain.varTypes Try.prog ++ Try.f7.resultTypes.toList)) = true := by kernel_rfl
end Go.Proofs.Ytpkjjfnfolbcoaa.fnExactCrewPlay
