/-
  What the program forces at FnKindFirst: closed facts, each by the kernel.
-/
import Derived.Test.YtbjblchhenmgjaaRows
import Derived.Test.YtbjblchhenmgjaaStr
import Derived.JoinedOf
set_option linter.unusedVariables false
namespace Go.Proofs.Ytbjblchhenmgjaa.fnKindFirst
open Go.ChangeShapes Go.WideShapes Go.ChangeAt Go.RowKit

theorem fact1 : (Rows.fnKindFirstRow.wf (OpenSpec.ofChange Rows.fnKindFirstSpec)) = true := by kernel_rfl
theorem fact2 : (laidOutB Try.prog) = true := by kernel_rfl
theorem fact3 : (mapsRowed Try.prog) = true := by kernel_rfl
theorem fact4 : (Try.f8.params.all (Program.readableRec Try.prog ·)) = true := by kernel_rfl
theorem fact5 : (namedTie Try.prog Rows.fnKindFirstRow.named Rows.fnKindFirstSpec.vars) = true := by kernel_rfl
theorem fact6 : ((Rows.fnKindFirstRow.stops == [])) = true := by kernel_rfl
theorem fact7 : ((Try.prog.stops == [])) = true := by kernel_rfl
theorem fact8 : ((Rows.fnKindFirstRow.knobs == [])) = true := by kernel_rfl
theorem fact9 : ((Try.prog.stopKnobs == [])) = true := by kernel_rfl
theorem fact10 : ((Rows.fnKindFirstRow.inPlace == Try.prog.inPlace 8)) = true := by kernel_rfl
theorem fact11 : ((Rows.fnKindFirstRow.unfollowed == Try.prog.unfollowed 8)) = true := by kernel_rfl
theorem fact12 : ((Rows.fnKindFirstRow.recurses == Try.prog.recurses 8)) = true := by kernel_rfl
theorem fact13 : ((Rows.fnKindFirstRow.named == Try.prog.varsNamed 8)) = true := by kernel_rfl
theorem fact14 : ((Rows.fnKindFirstRow.maps == (Try.f8.params.toList ++ Rows.fnKindFirstSpec.plain.varTypes Try.prog).any (Program.mapsRec Try.prog ·))) = true := by kernel_rfl
theorem fact15 : ((Rows.fnKindFirstRow.ifaces == (Try.f8.params.toList ++ Rows.fnKindFirstSpec.plain.varTypes Try.prog).any (Program.ifacesRec Try.prog ·))) = true := by kernel_rfl
theorem fact16 : ((Rows.fnKindFirstRow.mapsOut == Try.prog.mapsAmong Try.f8.resultTypes.toList)) = true := by kernel_rfl
theorem fact17 : ((Rows.fnKindFirstRow.loops == (Try.f8.params.toList ++ Rows.fnKindFirstSpec.plain.varTypes Try.prog).any (Program.loopsFrom Try.prog ·))) = true := by kernel_rfl
theorem fact18 : ((Rows.fnKindFirstRow.wideKeys == (Try.f8.params.toList ++ Rows.fnKindFirstSpec.plain.varTypes Try.prog ++ Try.f8.resultTypes.toList).any (Program.wideKeysFrom Try.prog ·))) = true := by kernel_rfl
theorem fact19 : (Rows.fnKindFirstSpec.vars.all (Program.varReadable Try.prog ·)) = true := by kernel_rfl
theorem fact20 : (Try.f8.resultTypes.all (fun t => Try.prog.readableRec t && decide (t < Try.prog.types.size))) = true := by kernel_rfl
theorem fact21 : ((Rows.fnKindFirstRow.ifacesOut == Try.f8.resultTypes.toList.any (Program.ifacesRec Try.prog ·))) = true := by kernel_rfl
theorem fact22 : ((Rows.fnKindFirstRow.loopsOut == Try.f8.resultTypes.toList.any (Program.loopsFrom Try.prog ·))) = true := by kernel_rfl
theorem fact23 : ((Rows.fnKindFirstRow.plainKeys == Try.prog.plainKeys)) = true := by kernel_rfl
theorem fact24 : (Rows.fnKindFirstRow.shortTexts.isNone) = true := by kernel_rfl
theorem fact25 : (Try.prog.stopsHeard) = true := by kernel_rfl
theorem fact26 : (Try.prog.mayEnter) = true := by kernel_rfl
theorem fact27 : ((Rows.fnKindFirstRow.lifted == Try.prog.liftsFinal)) = true := by kernel_rfl
theorem fact28 : ((Try.prog.make == some Rows.fnKindFirstRow.make)) = true := by kernel_rfl
theorem fact29 : ((Rows.fnKindFirstRow.kinds == (if Rows.fnKindFirstRow.domain.isEmpty then [] else Try.f8.params.toList.map fun t => match Try.prog.underlying t with | some (.int k) => some k | _ => none))) = true := by kernel_rfl
theorem fact30 : ((Rows.fnKindFirstRow.pinned == Rows.fnKindFirstRow.pinnedBy)) = true := by kernel_rfl
theorem fact31 : ((Rows.fnKindFirstRow.veiled == (Try.f8.params.toList ++ Rows.fnKindFirstSpec.plain.varTypes Try.prog ++ Try.f8.resultTypes.toList).any (Program.veiledRec Try.prog ·))) = true := by kernel_rfl
theorem fact32 : (Rows.fnKindFirstRow.veiledFits Try.prog Try.f8.params.toList (Try.f8.params.toList ++ Rows.fnKindFirstSpec.plain.varTypes Try.prog ++ Try.f8.resultTypes.toList)) = true := by kernel_rfl
end Go.Proofs.Ytbjblchhenmgjaa.fnKindFirst
