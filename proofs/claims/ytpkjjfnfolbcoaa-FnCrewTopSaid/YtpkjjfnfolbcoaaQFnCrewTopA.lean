/-
  What the program forces at FnCrewTop: closed facts, each by the kernel.
-/
import Derived.Test.YtpkjjfnfolbcoaaRows
import Derived.JoinedOf
import Derived.Test.YtpkjjfnfolbcoaaQStr
set_option linter.unusedVariables false
namespace Go.Proofs.Ytpkjjfnfolbcoaa.fnCrewTop
open Go.ChangeShapes Go.WideShapes Go.ChangeAt Go.RowKit

theorem fact1 : (Rows.fnCrewTopRow.wf (OpenSpec.ofChange Rows.fnCrewTopSpec)) = true := by kernel_rfl
theorem fact2 : (laidOutB Try.prog) = true := by kernel_rfl
theorem fact3 : (mapsRowed Try.prog) = true := by kernel_rfl
theorem fact4 : (Try.f10.params.all (Program.readableRec Try.prog ·)) = true := by kernel_rfl
theorem fact5 : (namedTie Try.prog Rows.fnCrewTopRow.named Rows.fnCrewTopSpec.vars) = true := by kernel_rfl
theorem fact6 : ((Rows.fnCrewTopRow.stops == [])) = true := by kernel_rfl
theorem fact7 : ((Try.prog.stops == [])) = true := by kernel_rfl
theorem fact8 : ((Rows.fnCrewTopRow.knobs == [])) = true := by kernel_rfl
theorem fact9 : ((Try.prog.stopKnobs == [])) = true := by kernel_rfl
theorem fact10 : ((Rows.fnCrewTopRow.inPlace == Try.prog.inPlace 10)) = true := by kernel_rfl
theorem fact11 : ((Rows.fnCrewTopRow.unfollowed == Try.prog.unfollowed 10)) = true := by kernel_rfl
theorem fact12 : ((Rows.fnCrewTopRow.recurses == Try.prog.recurses 10)) = true := by kernel_rfl
theorem fact13 : ((Rows.fnCrewTopRow.named == Try.prog.varsNamed 10)) = true := by kernel_rfl
theorem fact14 : ((Rows.fnCrewTopRow.maps == (Try.f10.params.toList ++ Rows.fnCrewTopSpec.plain.varTypes Try.prog).any (Program.mapsRec Try.prog ·))) = true := by kernel_rfl
theorem fact15 : ((Rows.fnCrewTopRow.ifaces == (Try.f10.params.toList ++ Rows.fnCrewTopSpec.plain.varTypes Try.prog).any (Program.ifacesRec Try.prog ·))) = true := by kernel_rfl
theorem fact16 : ((Rows.fnCrewTopRow.mapsOut == Try.prog.mapsAmong Try.f10.resultTypes.toList)) = true := by kernel_rfl
theorem fact17 : ((Rows.fnCrewTopRow.loops == (Try.f10.params.toList ++ Rows.fnCrewTopSpec.plain.varTypes Try.prog).any (Program.loopsFrom Try.prog ·))) = true := by kernel_rfl
theorem fact18 : ((Rows.fnCrewTopRow.wideKeys == (Try.f10.params.toList ++ Rows.fnCrewTopSpec.plain.varTypes Try.prog ++ Try.f10.resultTypes.toList).any (Program.wideKeysFrom Try.prog ·))) = true := by kernel_rfl
theorem fact19 : (Rows.fnCrewTopSpec.vars.all (Program.varReadable Try.prog ·)) = true := by kernel_rfl
theorem fact20 : (Try.f10.resultTypes.all (fun t => Try.prog.readableRec t && decide (t < Try.prog.types.size))) = true := by kernel_rfl
theorem fact21 : ((Rows.fnCrewTopRow.ifacesOut == Try.f10.resultTypes.toList.any (Program.ifacesRec Try.prog ·))) = true := by kernel_rfl
theorem fact22 : ((Rows.fnCrewTopRow.loopsOut == Try.f10.resultTypes.toList.any (Program.loopsFrom Try.prog ·))) = true := by kernel_rfl
theorem fact23 : ((Rows.fnCrewTopRow.plainKeys == Try.prog.plainKeys)) = true := by kernel_rfl
theorem fact24 : (Rows.fnCrewTopRow.shortTexts.isNone) = true := by kernel_rfl
theorem fact25 : (Try.prog.stopsHeard) = true := by kernel_rfl
theorem fact26 : (Try.prog.mayEnter) = true := by kernel_rfl
theorem fact27 : ((Rows.fnCrewTopRow.lifted == Try.prog.liftsFinal)) = true := by kernel_rfl
theorem fact28 : ((Try.prog.make == some Rows.fnCrewTopRow.make)) = true := by kernel_rfl
theorem fact29 : ((Rows.fnCrewTopRow.kinds == (if Rows.fnCrewTopRow.domain.isEmpty then [] else Try.f10.params.toList.map fun t => match Try.prog.underlying t with | some (.int k) => some k | _ => none))) = true := by kernel_rfl
theorem fact30 : ((Rows.fnCrewTopRow.pinned == Rows.fnCrewTopRow.pinnedBy)) = true := by kernel_rfl
theorem fact31 : ((Rows.fnCrewTopRow.veiled == (Try.f10.params.toList ++ Rows.fnCrewTopSpec.plain.varTypes Try.prog ++ Try.f10.resultTypes.toList).any (Program.veiledRec Try.prog ·))) = true := by kernel_rfl
theorem fact32 : (Rows.fnCrewTopRow.veiledFits Try.prog Try.f10.params.toList (Try.f10.params.toList ++ Rows.fnCrewTopSpec.plain.varTypes Try.prog ++ Try.f10.resultTypes.toList)) = true := by kernel_rfl
end Go.Proofs.Ytpkjjfnfolbcoaa.fnCrewTop
