/-
  What the program forces at FnLogFrames: closed facts, each by the kernel.
-/
import Derived.Test.YtbjblchhenmgjaaRows
import Derived.Test.YtbjblchhenmgjaaStr
import Derived.JoinedOf
set_option linter.unusedVariables false
namespace Go.Proofs.Ytbjblchhenmgjaa.fnLogFrames
open Go.ChangeShapes Go.WideShapes Go.ChangeAt Go.RowKit

theorem fact1 : (Rows.fnLogFramesRow.wf (OpenSpec.ofChange Rows.fnLogFramesSpec)) = true := by kernel_rfl
theorem fact2 : (laidOutB Try.prog) = true := by kernel_rfl
theorem fact3 : (mapsRowed Try.prog) = true := by kernel_rfl
theorem fact4 : (Try.f6.params.all (Program.readableRec Try.prog ·)) = true := by kernel_rfl
theorem fact5 : (namedTie Try.prog Rows.fnLogFramesRow.named Rows.fnLogFramesSpec.vars) = true := by kernel_rfl
theorem fact6 : ((Rows.fnLogFramesRow.stops == [])) = true := by kernel_rfl
theorem fact7 : ((Try.prog.stops == [])) = true := by kernel_rfl
theorem fact8 : ((Rows.fnLogFramesRow.knobs == [])) = true := by kernel_rfl
theorem fact9 : ((Try.prog.stopKnobs == [])) = true := by kernel_rfl
theorem fact10 : ((Rows.fnLogFramesRow.inPlace == Try.prog.inPlace 6)) = true := by kernel_rfl
theorem fact11 : ((Rows.fnLogFramesRow.unfollowed == Try.prog.unfollowed 6)) = true := by kernel_rfl
theorem fact12 : ((Rows.fnLogFramesRow.recurses == Try.prog.recurses 6)) = true := by kernel_rfl
theorem fact13 : ((Rows.fnLogFramesRow.named == Try.prog.varsNamed 6)) = true := by kernel_rfl
theorem fact14 : ((Rows.fnLogFramesRow.maps == (Try.f6.params.toList ++ Rows.fnLogFramesSpec.plain.varTypes Try.prog).any (Program.mapsRec Try.prog ·))) = true := by kernel_rfl
theorem fact15 : ((Rows.fnLogFramesRow.ifaces == (Try.f6.params.toList ++ Rows.fnLogFramesSpec.plain.varTypes Try.prog).any (Program.ifacesRec Try.prog ·))) = true := by kernel_rfl
theorem fact16 : ((Rows.fnLogFramesRow.mapsOut == Try.prog.mapsAmong Try.f6.resultTypes.toList)) = true := by kernel_rfl
theorem fact17 : ((Rows.fnLogFramesRow.loops == (Try.f6.params.toList ++ Rows.fnLogFramesSpec.plain.varTypes Try.prog).any (Program.loopsFrom Try.prog ·))) = true := by kernel_rfl
theorem fact18 : ((Rows.fnLogFramesRow.wideKeys == (Try.f6.params.toList ++ Rows.fnLogFramesSpec.plain.varTypes Try.prog ++ Try.f6.resultTypes.toList).any (Program.wideKeysFrom Try.prog ·))) = true := by kernel_rfl
theorem fact19 : (Rows.fnLogFramesSpec.vars.all (Program.varReadable Try.prog ·)) = true := by kernel_rfl
theorem fact20 : (Try.f6.resultTypes.all (fun t => Try.prog.readableRec t && decide (t < Try.prog.types.size))) = true := by kernel_rfl
theorem fact21 : ((Rows.fnLogFramesRow.ifacesOut == Try.f6.resultTypes.toList.any (Program.ifacesRec Try.prog ·))) = true := by kernel_rfl
theorem fact22 : ((Rows.fnLogFramesRow.loopsOut == Try.f6.resultTypes.toList.any (Program.loopsFrom Try.prog ·))) = true := by kernel_rfl
theorem fact23 : ((Rows.fnLogFramesRow.plainKeys == Try.prog.plainKeys)) = true := by kernel_rfl
theorem fact24 : (Rows.fnLogFramesRow.shortTexts.isNone) = true := by kernel_rfl
theorem fact25 : (Try.prog.stopsHeard) = true := by kernel_rfl
theorem fact26 : (Try.prog.mayEnter) = true := by kernel_rfl
theorem fact27 : ((Rows.fnLogFramesRow.lifted == Try.prog.liftsFinal)) = true := by kernel_rfl
theorem fact28 : ((Try.prog.make == some Rows.fnLogFramesRow.make)) = true := by kernel_rfl
theorem fact29 : ((Rows.fnLogFramesRow.kinds == (if Rows.fnLogFramesRow.domain.isEmpty then [] else Try.f6.params.toList.map fun t => match Try.prog.underlying t with | some (.int k) => some k | _ => none))) = true := by kernel_rfl
theorem fact30 : ((Rows.fnLogFramesRow.pinned == Rows.fnLogFramesRow.pinnedBy)) = true := by kernel_rfl
theorem fact31 : ((Rows.fnLogFramesRow.veiled == (Try.f6.params.toList ++ Rows.fnLogFramesSpec.plain.varTypes Try.prog ++ Try.f6.resultTypes.toList).any (Program.veiledRec Try.prog ·))) = true := by kernel_rfl
theorem fact32 : (Rows.fnLogFramesRow.veiledFits Try.prog Try.f6.params.toList (Try.f6.params.toList ++ Rows.fnLogFramesSpec.plain.varTypes Try.prog ++ Try.f6.resultTypes.toList)) = true := by kernel_rfl
end Go.Proofs.Ytbjblchhenmgjaa.fnLogFrames
