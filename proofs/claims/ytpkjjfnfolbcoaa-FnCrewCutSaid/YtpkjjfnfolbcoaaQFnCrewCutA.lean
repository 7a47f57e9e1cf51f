/-
  What the program forces at FnCrewCut: closed facts, each by the kernel.
-/
import Derived.Test.YtpkjjfnfolbcoaaRows
import Derived.JoinedOf
import Derived.Test.YtpkjjfnfolbcoaaQStr
set_option linter.unusedVariables false
namespace Go.Proofs.Ytpkjjfnfolbcoaa.fnCrewCut
open Go.ChangeShapes Go.WideShapes Go.ChangeAt Go.RowKit

theorem fact1 : (Rows.fnCrewCutRow.wf (OpenSpec.ofChange Rows.fnCrewCutSpec)) = true := by kernel_rfl
theorem fact2 : (laidOutB Try.prog) = true := by kernel_rfl
theorem fact3 : (mapsRowed Try.prog) = true := by kernel_rfl
theorem fact4 : (Try.f9.params.all (Program.readableRec Try.prog ·)) = true := by kernel_rfl
theorem fact5 : (namedTie Try.prog Rows.fnCrewCutRow.named Rows.fnCrewCutSpec.vars) = true := by kernel_rfl
theorem fact6 : ((Rows.fnCrewCutRow.stops == [])) = true := by kernel_rfl
theorem fact7 : ((Try.prog.stops == [])) = true := by kernel_rfl
theorem fact8 : ((Rows.fnCrewCutRow.knobs == [])) = true := by kernel_rfl
theorem fact9 : ((Try.prog.stopKnobs == [])) = true := by kernel_rfl
theorem fact10 : ((Rows.fnCrewCutRow.inPlace == Try.prog.inPlace 9)) = true := by kernel_rfl
theorem fact11 : ((Rows.fnCrewCutRow.unfollowed == Try.prog.unfollowed 9)) = true := by kernel_rfl
theorem fact12 : ((Rows.fnCrewCutRow.recurses == Try.prog.recurses 9)) = true := by kernel_rfl
theorem fact13 : ((Rows.fnCrewCutRow.named == Try.prog.varsNamed 9)) = true := by kernel_rfl
theorem fact14 : ((Rows.fnCrewCutRow.maps == (Try.f9.params.toList ++ Rows.fnCrewCutSpec.plain.varTypes Try.prog).any (Program.mapsRec Try.prog ·))) = true := by kernel_rfl
theorem fact15 : ((Rows.fnCrewCutRow.ifaces == (Try.f9.params.toList ++ Rows.fnCrewCutSpec.plain.varTypes Try.prog).any (Program.ifacesRec Try.prog ·))) = true := by kernel_rfl
theorem fact16 : ((Rows.fnCrewCutRow.mapsOut == Try.prog.mapsAmong Try.f9.resultTypes.toList)) = true := by kernel_rfl
theorem fact17 : ((Rows.fnCrewCutRow.loops == (Try.f9.params.toList ++ Rows.fnCrewCutSpec.plain.varTypes Try.prog).any (Program.loopsFrom Try.prog ·))) = true := by kernel_rfl
theorem fact18 : ((Rows.fnCrewCutRow.wideKeys == (Try.f9.params.toList ++ Rows.fnCrewCutSpec.plain.varTypes Try.prog ++ Try.f9.resultTypes.toList).any (Program.wideKeysFrom Try.prog ·))) = true := by kernel_rfl
theorem fact19 : (Rows.fnCrewCutSpec.vars.all (Program.varReadable Try.prog ·)) = true := by kernel_rfl
theorem fact20 : (Try.f9.resultTypes.all (fun t => Try.prog.readableRec t && decide (t < Try.prog.types.size))) = true := by kernel_rfl
theorem fact21 : ((Rows.fnCrewCutRow.ifacesOut == Try.f9.resultTypes.toList.any (Program.ifacesRec Try.prog ·))) = true := by kernel_rfl
theorem fact22 : ((Rows.fnCrewCutRow.loopsOut == Try.f9.resultTypes.toList.any (Program.loopsFrom Try.prog ·))) = true := by kernel_rfl
theorem fact23 : ((Rows.fnCrewCutRow.plainKeys == Try.prog.plainKeys)) = true := by kernel_rfl
theorem fact24 : (Rows.fnCrewCutRow.shortTexts.isNone) = true := by kernel_rfl
theorem fact25 : (Try.prog.stopsHeard) = true := by kernel_rfl
theorem fact26 : (Try.prog.mayEnter) = true := by kernel_rfl
theorem fact27 : ((Rows.fnCrewCutRow.lifted == Try.prog.liftsFinal)) = true := by kernel_rfl
theorem fact28 : ((Try.prog.make == some Rows.fnCrewCutRow.make)) = true := by kernel_rfl
theorem fact29 : ((Rows.fnCrewCutRow.kinds == (if Rows.fnCrewCutRow.domain.isEmpty then [] else Try.f9.params.toList.map fun t => match Try.prog.underlying t with | some (.int k) => some k | _ => none))) = true := by kernel_rfl
theorem fact30 : ((Rows.fnCrewCutRow.pinned == Rows.fnCrewCutRow.pinnedBy)) = true := by kernel_rfl
theorem fact31 : ((Rows.fnCrewCutRow.veiled == (Try.f9.params.toList ++ Rows.fnCrewCutSpec.plain.varTypes Try.prog ++ Try.f9.resultTypes.toList).any (Program.veiledRec Try.prog ·))) = true := by kernel_rfl
theorem fact32 : (Rows.fnCrewCutRow.veiledFits Try.prog Try.f9.params.toList (Try.f9.params.toList ++ Rows.fnCrewCutSpec.plain.varTypes Try.prog ++ Try.f9.resultTypes.toList)) = true := by kernel_rfl
end Go.Proofs.Ytpkjjfnfolbcoaa.fnCrewCut
