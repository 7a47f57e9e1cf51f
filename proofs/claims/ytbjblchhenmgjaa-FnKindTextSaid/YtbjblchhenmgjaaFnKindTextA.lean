/-
  What the program forces at FnKindText: closed facts, each by the kernel.
-/
import Derived.Test.YtbjblchhenmgjaaRows
import Derived.Test.YtbjblchhenmgjaaStr
import Derived.JoinedOf
set_option linter.unusedVariables false
namespace Go.Proofs.Ytbjblchhenmgjaa.fnKindText
open Go.ChangeShapes Go.WideShapes Go.ChangeAt Go.RowKit

theorem fact1 : (Rows.fnKindTextRow.wf (OpenSpec.ofChange Rows.fnKindTextSpec)) = true := by kernel_rfl
theorem fact2 : (laidOutB Try.prog) = true := by kernel_rfl
theorem fact3 : (mapsRowed Try.prog) = true := by kernel_rfl
theorem fact4 : (Try.f7.params.all (Program.readableRec Try.prog ·)) = true := by kernel_rfl
theorem fact5 : (namedTie Try.prog Rows.fnKindTextRow.named Rows.fnKindTextSpec.vars) = true := by kernel_rfl
theorem fact6 : ((Rows.fnKindTextRow.stops == [])) = true := by kernel_rfl
theorem fact7 : ((Try.prog.stops == [])) = true := by kernel_rfl
theorem fact8 : ((Rows.fnKindTextRow.knobs == [])) = true := by kernel_rfl
theorem fact9 : ((Try.prog.stopKnobs == [])) = true := by kernel_rfl
theorem fact10 : ((Rows.fnKindTextRow.inPlace == Try.prog.inPlace 7)) = true := by kernel_rfl
theorem fact11 : ((Rows.fnKindTextRow.unfollowed == Try.prog.unfollowed 7)) = true := by kernel_rfl
theorem fact12 : ((Rows.fnKindTextRow.recurses == Try.prog.recurses 7)) = true := by kernel_rfl
theorem fact13 : ((Rows.fnKindTextRow.named == Try.prog.varsNamed 7)) = true := by kernel_rfl
theorem fact14 : ((Rows.fnKindTextRow.maps == (Try.f7.params.toList ++ Rows.fnKindTextSpec.plain.varTypes Try.prog).any (Program.mapsRec Try.prog ·))) = true := by kernel_rfl
theorem fact15 : ((Rows.fnKindTextRow.ifaces == (Try.f7.params.toList ++ Rows.fnKindTextSpec.plain.varTypes Try.prog).any (Program.ifacesRec Try.prog ·))) = true := by kernel_rfl
theorem fact16 : ((Rows.fnKindTextRow.mapsOut == Try.prog.mapsAmong Try.f7.resultTypes.toList)) = true := by kernel_rfl
theorem fact17 : ((Rows.fnKindTextRow.loops == (Try.f7.params.toList ++ Rows.fnKindTextSpec.plain.varTypes Try.prog).any (Program.loopsFrom Try.prog ·))) = true := by kernel_rfl
theorem fact18 : ((Rows.fnKindTextRow.wideKeys == (Try.f7.params.toList ++ Rows.fnKindTextSpec.plain.varTypes Try.prog ++ Try.f7.resultTypes.toList).any (Program.wideKeysFrom Try.prog ·))) = true := by kernel_rfl
theorem fact19 : (Rows.fnKindTextSpec.vars.all (Program.varReadable Try.prog ·)) = true := by kernel_rfl
theorem fact20 : (Try.f7.resultTypes.all (fun t => Try.prog.readableRec t && decide (t < Try.prog.types.size))) = true := by kernel_rfl
theorem fact21 : ((Rows.fnKindTextRow.ifacesOut == Try.f7.resultTypes.toList.any (Program.ifacesRec Try.prog ·))) = true := by kernel_rfl
theorem fact22 : ((Rows.fnKindTextRow.loopsOut == Try.f7.resultTypes.toList.any (Program.loopsFrom Try.prog ·))) = true := by kernel_rfl
theorem fact23 : ((Rows.fnKindTextRow.plainKeys == Try.prog.plainKeys)) = true := by kernel_rfl
theorem fact24 : (Rows.fnKindTextRow.shortTexts.isNone) = true := by kernel_rfl
theorem fact25 : (Try.prog.stopsHeard) = true := by kernel_rfl
theorem fact26 : (Try.prog.mayEnter) = true := by kernel_rfl
theorem fact27 : ((Rows.fnKindTextRow.lifted == Try.prog.liftsFinal)) = true := by kernel_rfl
theorem fact28 : ((Try.prog.make == some Rows.fnKindTextRow.make)) = true := by kernel_rfl
theorem fact29 : ((Rows.fnKindTextRow.kinds == (if Rows.fnKindTextRow.domain.isEmpty then [] else Try.f7.params.toList.map fun t => match Try.prog.underlying t with | some (.int k) => some k | _ => none))) = true := by kernel_rfl
theorem fact30 : ((Rows.fnKindTextRow.pinned == Rows.fnKindTextRow.pinnedBy)) = true := by kernel_rfl
theorem fact31 : ((Rows.fnKindTextRow.veiled == (Try.f7.params.toList ++ Rows.fnKindTextSpec.plain.varTypes Try.prog ++ Try.f7.resultTypes.toList).any (Program.veiledRec Try.prog ·))) = true := by kernel_rfl
theorem fact32 : (Rows.fnKindTextRow.veiledFits Try.prog Try.f7.params.toList (Try.f7.params.toList ++ Rows.fnKindTextSpec.plain.varTypes Try.prog ++ Try.f7.resultTypes.toList)) = true := by kernel_rfl
end Go.Proofs.Ytbjblchhenmgjaa.fnKindText
