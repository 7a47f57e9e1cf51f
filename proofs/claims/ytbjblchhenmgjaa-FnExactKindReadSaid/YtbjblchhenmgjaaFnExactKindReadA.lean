/-
  What the program forces at FnExactKindRead: closed facts, each by the kernel.
-/
import Derived.Test.YtbjblchhenmgjaaRows
import Derived.Test.YtbjblchhenmgjaaStr
import Derived.JoinedOf
set_option linter.unusedVariables false
namespace Go.Proofs.Ytbjblchhenmgjaa.fnExactKindRead
open Go.ChangeShapes Go.WideShapes Go.ChangeAt Go.RowKit

theorem fact1 : (Rows.fnExactKindReadRow.wf (OpenSpec.ofChange Rows.fnExactKindReadSpec)) = true := by kernel_rfl
theorem fact2 : (laidOutB Try.prog) = true := by kernel_rfl
theorem fact3 : (mapsRowed Try.prog) = true := by kernel_rfl
theorem fact4 : (Try.f5.params.all (Program.readableRec Try.prog ·)) = true := by kernel_rfl
theorem fact5 : (namedTie Try.prog Rows.fnExactKindReadRow.named Rows.fnExactKindReadSpec.vars) = true := by kernel_rfl
theorem fact6 : ((Rows.fnExactKindReadRow.stops == [])) = true := by kernel_rfl
theorem fact7 : ((Try.prog.stops == [])) = true := by kernel_rfl
theorem fact8 : ((Rows.fnExactKindReadRow.knobs == [])) = true := by kernel_rfl
theorem fact9 : ((Try.prog.stopKnobs == [])) = true := by kernel_rfl
theorem fact10 : ((Rows.fnExactKindReadRow.inPlace == Try.prog.inPlace 5)) = true := by kernel_rfl
theorem fact11 : ((Rows.fnExactKindReadRow.unfollowed == Try.prog.unfollowed 5)) = true := by kernel_rfl
theorem fact12 : ((Rows.fnExactKindReadRow.recurses == Try.prog.recurses 5)) = true := by kernel_rfl
theorem fact13 : ((Rows.fnExactKindReadRow.named == Try.prog.varsNamed 5)) = true := by kernel_rfl
theorem fact14 : ((Rows.fnExactKindReadRow.maps == (Try.f5.params.toList ++ Rows.fnExactKindReadSpec.plain.varTypes Try.prog).any (Program.mapsRec Try.prog ·))) = true := by kernel_rfl
theorem fact15 : ((Rows.fnExactKindReadRow.ifaces == (Try.f5.params.toList ++ Rows.fnExactKindReadSpec.plain.varTypes Try.prog).any (Program.ifacesRec Try.prog ·))) = true := by kernel_rfl
theorem fact16 : ((Rows.fnExactKindReadRow.mapsOut == Try.prog.mapsAmong Try.f5.resultTypes.toList)) = true := by kernel_rfl
theorem fact17 : ((Rows.fnExactKindReadRow.loops == (Try.f5.params.toList ++ Rows.fnExactKindReadSpec.plain.varTypes Try.prog).any (Program.loopsFrom Try.prog ·))) = true := by kernel_rfl
theorem fact18 : ((Rows.fnExactKindReadRow.wideKeys == (Try.f5.params.toList ++ Rows.fnExactKindReadSpec.plain.varTypes Try.prog ++ Try.f5.resultTypes.toList).any (Program.wideKeysFrom Try.prog ·))) = true := by kernel_rfl
theorem fact19 : (Rows.fnExactKindReadSpec.vars.all (Program.varReadable Try.prog ·)) = true := by kernel_rfl
theorem fact20 : (Try.f5.resultTypes.all (fun t => Try.prog.readableRec t && decide (t < Try.prog.types.size))) = true := by kernel_rfl
theorem fact21 : ((Rows.fnExactKindReadRow.ifacesOut == Try.f5.resultTypes.toList.any (Program.ifacesRec Try.prog ·))) = true := by kernel_rfl
theorem fact22 : ((Rows.fnExactKindReadRow.loopsOut == Try.f5.resultTypes.toList.any (Program.loopsFrom Try.prog ·))) = true := by kernel_rfl
theorem fact23 : ((Rows.fnExactKindReadRow.plainKeys == Try.prog.plainKeys)) = true := by kernel_rfl
theorem fact24 : (Rows.fnExactKindReadRow.shortTexts.isNone) = true := by kernel_rfl
theorem fact25 : (Try.prog.stopsHeard) = true := by kernel_rfl
theorem fact26 : (Try.prog.mayEnter) = true := by kernel_rfl
theorem fact27 : ((Rows.fnExactKindReadRow.lifted == Try.prog.liftsFinal)) = true := by kernel_rfl
theorem fact28 : ((Try.prog.make == some Rows.fnExactKindReadRow.make)) = true := by kernel_rfl
theorem fact29 : ((Rows.fnExactKindReadRow.kinds == (if Rows.fnExactKindReadRow.domain.isEmpty then [] else Try.f5.params.toList.map fun t => match Try.prog.underlying t with | some (.int k) => some k | _ => none))) = true := by kernel_rfl
theorem fact30 : ((Rows.fnExactKindReadRow.pinned == Rows.fnExactKindReadRow.pinnedBy)) = true := by kernel_rfl
theorem fact31 : ((Rows.fnExactKindReadRow.veiled == (Try.f5.params.toList ++ Rows.fnExactKindReadSpec.plain.varTypes Try.prog ++ Try.f5.resultTypes.toList).any (Program.veiledRec Try.prog ·))) = true := by kernel_rfl
theorem fact32 : (Rows.fnExactKindReadRow.veiledFits Try.prog Try.f5.params.toList (Try.f5.params.toList ++ Rows.fnExactKindReadSpec.plain.varTypes Try.prog ++ Try.f5.resultTypes.toList)) = true := by kernel_rfl
end Go.Proofs.Ytbjblchhenmgjaa.fnExactKindRead
