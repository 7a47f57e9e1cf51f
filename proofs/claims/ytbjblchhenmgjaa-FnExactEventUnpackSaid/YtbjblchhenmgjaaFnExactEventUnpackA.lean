/-
  What the program forces at FnExactEventUnpack: closed facts, each by the kernel.
-/
import Derived.Test.YtbjblchhenmgjaaRows
import Derived.Test.YtbjblchhenmgjaaStr
import Derived.JoinedOf
set_option linter.unusedVariables false
namespace Go.Proofs.Ytbjblchhenmgjaa.fnExactEventUnpack
open Go.ChangeShapes Go.WideShapes Go.ChangeAt Go.RowKit

theorem fact1 : (Rows.fnExactEventUnpackRow.wf (OpenSpec.ofChange Rows.fnExactEventUnpackSpec)) = true := by kernel_rfl
theorem fact2 : (laidOutB Try.prog) = true := by kernel_rfl
theorem fact3 : (mapsRowed Try.prog) = true := by kernel_rfl
theorem fact4 : (Try.f3.params.all (Program.readableRec Try.prog ·)) = true := by kernel_rfl
theorem fact5 : (namedTie Try.prog Rows.fnExactEventUnpackRow.named Rows.fnExactEventUnpackSpec.vars) = true := by kernel_rfl
theorem fact6 : ((Rows.fnExactEventUnpackRow.stops == [])) = true := by kernel_rfl
theorem fact7 : ((Try.prog.stops == [])) = true := by kernel_rfl
theorem fact8 : ((Rows.fnExactEventUnpackRow.knobs == [])) = true := by kernel_rfl
theorem fact9 : ((Try.prog.stopKnobs == [])) = true := by kernel_rfl
theorem fact10 : ((Rows.fnExactEventUnpackRow.inPlace == Try.prog.inPlace 3)) = true := by kernel_rfl
theorem fact11 : ((Rows.fnExactEventUnpackRow.unfollowed == Try.prog.unfollowed 3)) = true := by kernel_rfl
theorem fact12 : ((Rows.fnExactEventUnpackRow.recurses == Try.prog.recurses 3)) = true := by kernel_rfl
theorem fact13 : ((Rows.fnExactEventUnpackRow.named == Try.prog.varsNamed 3)) = true := by kernel_rfl
theorem fact14 : ((Rows.fnExactEventUnpackRow.maps == (Try.f3.params.toList ++ Rows.fnExactEventUnpackSpec.plain.varTypes Try.prog).any (Program.mapsRec Try.prog ·))) = true := by kernel_rfl
theorem fact15 : ((Rows.fnExactEventUnpackRow.ifaces == (Try.f3.params.toList ++ Rows.fnExactEventUnpackSpec.plain.varTypes Try.prog).any (Program.ifacesRec Try.prog ·))) = true := by kernel_rfl
theorem fact16 : ((Rows.fnExactEventUnpackRow.mapsOut == Try.prog.mapsAmong Try.f3.resultTypes.toList)) = true := by kernel_rfl
theorem fact17 : ((Rows.fnExactEventUnpackRow.loops == (Try.f3.params.toList ++ Rows.fnExactEventUnpackSpec.plain.varTypes Try.prog).any (Program.loopsFrom Try.prog ·))) = true := by kernel_rfl
theorem fact18 : ((Rows.fnExactEventUnpackRow.wideKeys == (Try.f3.params.toList ++ Rows.fnExactEventUnpackSpec.plain.varTypes Try.prog ++ Try.f3.resultTypes.toList).any (Program.wideKeysFrom Try.prog ·))) = true := by kernel_rfl
theorem fact19 : (Rows.fnExactEventUnpackSpec.vars.all (Program.varReadable Try.prog ·)) = true := by kernel_rfl
theorem fact20 : (Try.f3.resultTypes.all (fun t => Try.prog.readableRec t && decide (t < Try.prog.types.size))) = true := by kernel_rfl
theorem fact21 : ((Rows.fnExactEventUnpackRow.ifacesOut == Try.f3.resultTypes.toList.any (Program.ifacesRec Try.prog ·))) = true := by kernel_rfl
theorem fact22 : ((Rows.fnExactEventUnpackRow.loopsOut == Try.f3.resultTypes.toList.any (Program.loopsFrom Try.prog ·))) = true := by kernel_rfl
theorem fact23 : ((Rows.fnExactEventUnpackRow.plainKeys == Try.prog.plainKeys)) = true := by kernel_rfl
theorem fact24 : (Rows.fnExactEventUnpackRow.shortTexts.isNone) = true := by kernel_rfl
theorem fact25 : (Try.prog.stopsHeard) = true := by kernel_rfl
theorem fact26 : (Try.prog.mayEnter) = true := by kernel_rfl
theorem fact27 : ((Rows.fnExactEventUnpackRow.lifted == Try.prog.liftsFinal)) = true := by kernel_rfl
theorem fact28 : ((Try.prog.make == some Rows.fnExactEventUnpackRow.make)) = true := by kernel_rfl
theorem fact29 : ((Rows.fnExactEventUnpackRow.kinds == (if Rows.fnExactEventUnpackRow.domain.isEmpty then [] else Try.f3.params.toList.map fun t => match Try.prog.underlying t with | some (.int k) => some k | _ => none))) = true := by kernel_rfl
theorem fact30 : ((Rows.fnExactEventUnpackRow.pinned == Rows.fnExactEventUnpackRow.pinnedBy)) = true := by kernel_rfl
theorem fact31 : ((Rows.fnExactEventUnpackRow.veiled == (Try.f3.params.toList ++ Rows.fnExactEventUnpackSpec.plain.varTypes Try.prog ++ Try.f3.resultTypes.toList).any (Program.veiledRec Try.prog ·))) = true := by kernel_rfl
theorem fact32 : (Rows.fnExactEventUnpackRow.veiledFits Try.prog Try.f3.params.toList (Try.f3.params.toList ++ Rows.fnExactEventUnpackSpec.plain.varTypes Try.prog ++ Try.f3.resultTypes.toList)) = true := by kernel_rfl
end Go.Proofs.Ytbjblchhenmgjaa.fnExactEventUnpack
