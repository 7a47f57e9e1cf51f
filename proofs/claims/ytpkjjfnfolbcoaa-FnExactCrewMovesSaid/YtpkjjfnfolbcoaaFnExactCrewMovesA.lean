/-
  What the program forces at FnExactCrewMoves: closed facts, each by the kernel.
-/
import Derived.Test.YtpkjjfnfolbcoaaRows
import Derived.Test.YtpkjjfnfolbcoaaStr
import Derived.JoinedOf
set_option linter.unusedVariables false
namespace Go.Proofs.Ytpkjjfnfolbcoaa.fnExactCrewMoves
open Go.ChangeShapes Go.WideShapes Go.ChangeAt Go.RowKit

theorem fact1 : (Rows.fnExactCrewMovesRow.wf (OpenSpec.ofChange Rows.fnExactCrewMovesSpec)) = true := by kernel_rfl
theorem fact2 : (laidOutB Try.prog) = true := by kernel_rfl
theorem fact3 : (mapsRowed Try.prog) = true := by kernel_rfl
theorem fact4 : (Try.f8.params.all (Program.readableRec Try.prog ·)) = true := by kernel_rfl
theorem fact5 : (namedTie Try.prog Rows.fnExactCrewMovesRow.named Rows.fnExactCrewMovesSpec.vars) = true := by kernel_rfl
theorem fact6 : ((Rows.fnExactCrewMovesRow.stops == [])) = true := by kernel_rfl
theorem fact7 : ((Try.prog.stops == [])) = true := by kernel_rfl
theorem fact8 : ((Rows.fnExactCrewMovesRow.knobs == [])) = true := by kernel_rfl
theorem fact9 : ((Try.prog.stopKnobs == [])) = true := by kernel_rfl
theorem fact10 : ((Rows.fnExactCrewMovesRow.inPlace == Try.prog.inPlace 8)) = true := by kernel_rfl
theorem fact11 : ((Rows.fnExactCrewMovesRow.unfollowed == Try.prog.unfollowed 8)) = true := by kernel_rfl
theorem fact12 : ((Rows.fnExactCrewMovesRow.recurses == Try.prog.recurses 8)) = true := by kernel_rfl
theorem fact13 : ((Rows.fnExactCrewMovesRow.named == Try.prog.varsNamed 8)) = true := by kernel_rfl
theorem fact14 : ((Rows.fnExactCrewMovesRow.maps == (Try.f8.params.toList ++ Rows.fnExactCrewMovesSpec.plain.varTypes Try.prog).any (Program.mapsRec Try.prog ·))) = true := by kernel_rfl
theorem fact15 : ((Rows.fnExactCrewMovesRow.ifaces == (Try.f8.params.toList ++ Rows.fnExactCrewMovesSpec.plain.varTypes Try.prog).any (Program.ifacesRec Try.prog ·))) = true := by kernel_rfl
theorem fact16 : ((Rows.fnExactCrewMovesRow.mapsOut == Try.prog.mapsAmong Try.f8.resultTypes.toList)) = true := by kernel_rfl
theorem fact17 : ((Rows.fnExactCrewMovesRow.loops == (Try.f8.params.toList ++ Rows.fnExactCrewMovesSpec.plain.varTypes Try.prog).any (Program.loopsFrom Try.prog ·))) = true := by kernel_rfl
theorem fact18 : ((Rows.fnExactCrewMovesRow.wideKeys == (Try.f8.params.toList ++ Rows.fnExactCrewMovesSpec.plain.varTypes Try.prog ++ Try.f8.resultTypes.toList).any (Program.wideKeysFrom Try.prog ·))) = true := by kernel_rfl
theorem fact19 : (Rows.fnExactCrewMovesSpec.vars.all (Program.varReadable Try.prog ·)) = true := by kernel_rfl
theorem fact20 : (Try.f8.resultTypes.all (fun t => Try.prog.readableRec t && decide (t < Try.prog.types.size))) = true := by kernel_rfl
theorem fact21 : ((Rows.fnExactCrewMovesRow.ifacesOut == Try.f8.resultTypes.toList.any (Program.ifacesRec Try.prog ·))) = true := by kernel_rfl
theorem fact22 : ((Rows.fnExactCrewMovesRow.loopsOut == Try.f8.resultTypes.toList.any (Program.loopsFrom Try.prog ·))) = true := by kernel_rfl
theorem fact23 : ((Rows.fnExactCrewMovesRow.plainKeys == Try.prog.plainKeys)) = true := by kernel_rfl
theorem fact24 : (Rows.fnExactCrewMovesRow.shortTexts.isNone) = true := by kernel_rfl
theorem fact25 : (Try.prog.stopsHeard) = true := by kernel_rfl
theorem fact26 : (Try.prog.mayEnter) = true := by kernel_rfl
theorem fact27 : ((Rows.fnExactCrewMovesRow.lifted == Try.prog.liftsFinal)) = true := by kernel_rfl
theorem fact28 : ((Try.prog.make == some Rows.fnExactCrewMovesRow.make)) = true := by kernel_rfl
theorem fact29 : ((Rows.fnExactCrewMovesRow.kinds == (if Rows.fnExactCrewMovesRow.domain.isEmpty then [] else Try.f8.params.toList.map fun t => match Try.prog.underlying t with | some (.int k) => some k | _ => none))) = true := by kernel_rfl
theorem fact30 : ((Rows.fnExactCrewMovesRow.pinned == Rows.fnExactCrewMovesRow.pinnedBy)) = true := by kernel_rfl
theorem fact31 : ((Rows.fnExactCrewMovesRow.veiled == (Try.f8.params.toList ++ Rows.fnExactCrewMovesSpec.plain.varTypes Try.prog ++ Try.f8.resultTypes.toList).any (Program.veiledRec Try.prog ·))) = true := by kernel_rfl
theorem fact32 : (Rows.fnExactCrewMovesRow.veiledFits Try.prog Try.f8.params.toList (Try.f8.params.toList ++ Rows.fnExactCrewMovesSpec.plain.varTypes Try.prog ++ Try.f8.resultTypes.toList)) = true := by kernel_rfl
end Go.Proofs.Ytpkjjfnfolbcoaa.fnExactCrewMoves
