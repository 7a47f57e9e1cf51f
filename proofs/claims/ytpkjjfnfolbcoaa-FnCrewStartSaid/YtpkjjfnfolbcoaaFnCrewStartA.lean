/-
  What the program forces at FnCrewStart: closed facts, each by the kernel.
-/
import Derived.Test.YtpkjjfnfolbcoaaRows
import Derived.Test.YtpkjjfnfolbcoaaStr
import Derived.JoinedOf
set_option linter.unusedVariables false
namespace Go.Proofs.Ytpkjjfnfolbcoaa.fnCrewStart
open Go.ChangeShapes Go.WideShapes Go.ChangeAt Go.RowKit

theorem fact1 : (Rows.fnCrewStartRow.wf (OpenSpec.ofChange Rows.fnCrewStartSpec)) = true := by kernel_rfl
theorem fact2 : (laidOutB Try.prog) = true := by kernel_rfl
theorem fact3 : (mapsRowed Try.prog) = true := by kernel_rfl
theorem fact4 : (Try.f6.params.all (Program.readableRec Try.prog ·)) = true := by kernel_rfl
theorem fact5 : (namedTie Try.prog Rows.fnCrewStartRow.named Rows.fnCrewStartSpec.vars) = true := by kernel_rfl
theorem fact6 : ((Rows.fnCrewStartRow.stops == [])) = true := by kernel_rfl
theorem fact7 : ((Try.prog.stops == [])) = true := by kernel_rfl
theorem fact8 : ((Rows.fnCrewStartRow.knobs == [])) = true := by kernel_rfl
theorem fact9 : ((Try.prog.stopKnobs == [])) = true := by kernel_rfl
theorem fact10 : ((Rows.fnCrewStartRow.inPlace == Try.prog.inPlace 6)) = true := by kernel_rfl
theorem fact11 : ((Rows.fnCrewStartRow.unfollowed == Try.prog.unfollowed 6)) = true := by kernel_rfl
theorem fact12 : ((Rows.fnCrewStartRow.recurses == Try.prog.recurses 6)) = true := by kernel_rfl
theorem fact13 : ((Rows.fnCrewStartRow.named == Try.prog.varsNamed 6)) = true := by kernel_rfl
theorem fact14 : ((Rows.fnCrewStartRow.maps == (Try.f6.params.toList ++ Rows.fnCrewStartSpec.plain.varTypes Try.prog).any (Program.mapsRec Try.prog ·))) = true := by kernel_rfl
theorem fact15 : ((Rows.fnCrewStartRow.ifaces == (Try.f6.params.toList ++ Rows.fnCrewStartSpec.plain.varTypes Try.prog).any (Program.ifacesRec Try.prog ·))) = true := by kernel_rfl
theorem fact16 : ((Rows.fnCrewStartRow.mapsOut == Try.prog.mapsAmong Try.f6.resultTypes.toList)) = true := by kernel_rfl
theorem fact17 : ((Rows.fnCrewStartRow.loops == (Try.f6.params.toList ++ Rows.fnCrewStartSpec.plain.varTypes Try.prog).any (Program.loopsFrom Try.prog ·))) = true := by kernel_rfl
theorem fact18 : ((Rows.fnCrewStartRow.wideKeys == (Try.f6.params.toList ++ Rows.fnCrewStartSpec.plain.varTypes Try.prog ++ Try.f6.resultTypes.toList).any (Program.wideKeysFrom Try.prog ·))) = true := by kernel_rfl
theorem fact19 : (Rows.fnCrewStartSpec.vars.all (Program.varReadable Try.prog ·)) = true := by kernel_rfl
theorem fact20 : (Try.f6.resultTypes.all (fun t => Try.prog.readableRec t && decide (t < Try.prog.types.size))) = true := by kernel_rfl
theorem fact21 : ((Rows.fnCrewStartRow.ifacesOut == Try.f6.resultTypes.toList.any (Program.ifacesRec Try.prog ·))) = true := by kernel_rfl
theorem fact22 : ((Rows.fnCrewStartRow.loopsOut == Try.f6.resultTypes.toList.any (Program.loopsFrom Try.prog ·))) = true := by kernel_rfl
theorem fact23 : ((Rows.fnCrewStartRow.plainKeys == Try.prog.plainKeys)) = true := by kernel_rfl
theorem fact24 : (Rows.fnCrewStartRow.shortTexts.isNone) = true := by kernel_rfl
theorem fact25 : (Try.prog.stopsHeard) = true := by kernel_rfl
theorem fact26 : (Try.prog.mayEnter) = true := by kernel_rfl
theorem fact27 : ((Rows.fnCrewStartRow.lifted == Try.prog.liftsFinal)) = true := by kernel_rfl
theorem fact28 : ((Try.prog.make == some Rows.fnCrewStartRow.make)) = true := by kernel_rfl
theorem fact29 : ((Rows.fnCrewStartRow.kinds == (if Rows.fnCrewStartRow.domain.isEmpty then [] else Try.f6.params.toList.map fun t => match Try.prog.underlying t with | some (.int k) => some k | _ => none))) = true := by kernel_rfl
theorem fact30 : ((Rows.fnCrewStartRow.pinned == Rows.fnCrewStartRow.pinnedBy)) = true := by kernel_rfl
theorem fact31 : ((Rows.fnCrewStartRow.veiled == (Try.f6.params.toList ++ Rows.fnCrewStartSpec.plain.varTypes Try.prog ++ Try.f6.resultTypes.toList).any (Program.veiledRec Try.prog ·))) = true := by kernel_rfl
theorem fact32 : (Rows.fnCrewStartRow.veiledFits Try.prog Try.f6.params.toList (Try.f6.params.toList ++ Rows.fnCrewStartSpec.plain.varTypes Try.prog ++ Try.f6.resultTypes.toList)) = true := by kernel_rfl
end Go.Proofs.Ytpkjjfnfolbcoaa.fnCrewStart
