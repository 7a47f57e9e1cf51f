/-
  What the program forces at FnCrewRun: closed facts, each by the kernel.
-/
import Derived.Test.YtbjblchhenmgjaaRows
import Derived.Test.YtbjblchhenmgjaaCrpA
import Derived.JoinedOf
set_option linter.unusedVariables false
namespace Go.Proofs.Ytbjblchhenmgjaa.fnCrewRun
open Go.ChangeShapes Go.WideShapes Go.ChangeAt Go.RowKit

theorem fact1 : (Rows.fnCrewRunRow.wf (OpenSpec.ofChange Rows.fnCrewRunSpec)) = true := by kernel_rfl
theorem fact2 : (laidOutB Try.prog) = true := by kernel_rfl
theorem fact3 : (mapsRowed Try.prog) = true := by kernel_rfl
theorem fact4 : (Try.f9.params.all (Program.readableRec Try.prog ·)) = true := by kernel_rfl
theorem fact5 : (namedTie Try.prog Rows.fnCrewRunRow.named Rows.fnCrewRunSpec.vars) = true := by kernel_rfl
theorem fact6 : ((Rows.fnCrewRunRow.stops == [])) = true := by kernel_rfl
theorem fact7 : ((Try.prog.stops == [])) = true := by kernel_rfl
theorem fact8 : ((Rows.fnCrewRunRow.knobs == [])) = true := by kernel_rfl
theorem fact9 : ((Try.prog.stopKnobs == [])) = true := by kernel_rfl
theorem fact10 : ((Rows.fnCrewRunRow.inPlace == Try.prog.inPlace 9)) = true := by kernel_rfl
theorem fact11 : ((Rows.fnCrewRunRow.unfollowed == Try.prog.unfollowed 9)) = true := by kernel_rfl
theorem fact12 : ((Rows.fnCrewRunRow.recurses == Try.prog.recurses 9)) = true := by kernel_rfl
theorem fact13 : ((Rows.fnCrewRunRow.named == Try.prog.varsNamed 9)) = true := by kernel_rfl
theorem fact14 : ((Rows.fnCrewRunRow.maps == (Try.f9.params.toList ++ Rows.fnCrewRunSpec.plain.varTypes Try.prog).any (Program.mapsRec Try.prog ·))) = true := by kernel_rfl
theorem fact15 : ((Rows.fnCrewRunRow.ifaces == (Try.f9.params.toList ++ Rows.fnCrewRunSpec.plain.varTypes Try.prog).any (Program.ifacesRec Try.prog ·))) = true := by kernel_rfl
theorem fact16 : ((Rows.fnCrewRunRow.mapsOut == Try.prog.mapsAmong Try.f9.resultTypes.toList)) = true := by kernel_rfl
theorem fact17 : ((Rows.fnCrewRunRow.loops == (Try.f9.params.toList ++ Rows.fnCrewRunSpec.plain.varTypes Try.prog).any (Program.loopsFrom Try.prog ·))) = true := by kernel_rfl
theorem fact18 : ((Rows.fnCrewRunRow.wideKeys == (Try.f9.params.toList ++ Rows.fnCrewRunSpec.plain.varTypes Try.prog ++ Try.f9.resultTypes.toList).any (Program.wideKeysFrom Try.prog ·))) = true := by kernel_rfl
theorem fact19 : (Rows.fnCrewRunSpec.vars.all (Program.varReadable Try.prog ·)) = true := by kernel_rfl
theorem fact20 : (Try.f9.resultTypes.all (fun t => Try.prog.readableRec t && decide (t < Try.prog.types.size))) = true := by kernel_rfl
theorem fact21 : ((Rows.fnCrewRunRow.ifacesOut == Try.f9.resultTypes.toList.any (Program.ifacesRec Try.prog ·))) = true := by kernel_rfl
theorem fact22 : ((Rows.fnCrewRunRow.loopsOut == Try.f9.resultTypes.toList.any (Program.loopsFrom Try.prog ·))) = true := by kernel_rfl
theorem fact23 : ((Rows.fnCrewRunRow.plainKeys == Try.prog.plainKeys)) = true := by kernel_rfl
theorem fact24 : (Rows.fnCrewRunRow.shortTexts.isNone) = true := by kernel_rfl
theorem fact25 : (Try.prog.stopsHeard) = true := by kernel_rfl
theorem fact26 : (Try.prog.mayEnter) = true := by kernel_rfl
theorem fact27 : ((Rows.fnCrewRunRow.lifted == Try.prog.liftsFinal)) = true := by kernel_rfl
theorem fact28 : ((Try.prog.make == some Rows.fnCrewRunRow.make)) = true := by kernel_rfl
theorem fact29 : ((Rows.fnCrewRunRow.kinds == (if Rows.fnCrewRunRow.domain.isEmpty then [] else Try.f9.params.toList.map fun t => match Try.prog.underlying t with | some (.int k) => some k | _ => none))) = true := by kernel_rfl
theorem fact30 : ((Rows.fnCrewRunRow.pinned == Rows.fnCrewRunRow.pinnedBy)) = true := by kernel_rfl
theorem fact31 : ((Rows.fnCrewRunRow.veiled == (Try.f9.params.toList ++ Rows.fnCrewRunSpec.plain.varTypes Try.prog ++ Try.f9.resultTypes.toList).any (Program.veiledRec Try.prog ·))) = true := by kernel_rfl
theorem fact32 : (Rows.fnCrewRunRow.veiledFits Try.prog Try.f9.params.toList (Try.f9.params.toList ++ Rows.fnCrewRunSpec.plain.varTypes Try.prog ++ Try.f9.resultTypes.toList)) = true := by kernel_rfl
end Go.Proofs.Ytbjblchhenmgjaa.fnCrewRun
