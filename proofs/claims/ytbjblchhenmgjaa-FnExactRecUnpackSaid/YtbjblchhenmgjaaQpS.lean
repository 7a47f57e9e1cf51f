/-
  What the program forces at FnExactRecUnpack: closed facts, each by the kernel.
-/
import Derived.Test.YtbjblchhenmgjaaRows
import Derived.Test.YtbjblchhenmgjaaQpA
import Derived.JoinedOf
set_option linter.unusedVariables false
namespace Go.Proofs.Ytbjblchhenmgjaa.fnExactRecUnpack
open Go.ChangeShapes Go.WideShapes Go.ChangeAt Go.RowKit

theorem fact1 : (Rows.fnExactRecUnpackRow.wf (OpenSpec.ofChange Rows.fnExactRecUnpackSpec)) = true := by kernel_rfl
theorem fact2 : (laidOutB Try.prog) = true := by kernel_rfl
theorem fact3 : (mapsRowed Try.prog) = true := by kernel_rfl
theorem fact4 : (Try.f4.params.all (Program.readableRec Try.prog ·)) = true := by kernel_rfl
theorem fact5 : (namedTie Try.prog Rows.fnExactRecUnpackRow.named Rows.fnExactRecUnpackSpec.vars) = true := by kernel_rfl
theorem fact6 : ((Rows.fnExactRecUnpackRow.stops == [])) = true := by kernel_rfl
theorem fact7 : ((Try.prog.stops == [])) = true := by kernel_rfl
theorem fact8 : ((Rows.fnExactRecUnpackRow.knobs == [])) = true := by kernel_rfl
theorem fact9 : ((Try.prog.stopKnobs == [])) = true := by kernel_rfl
theorem fact10 : ((Rows.fnExactRecUnpackRow.inPlace == Try.prog.inPlace 4)) = true := by kernel_rfl
theorem fact11 : ((Rows.fnExactRecUnpackRow.unfollowed == Try.prog.unfollowed 4)) = true := by kernel_rfl
theorem fact12 : ((Rows.fnExactRecUnpackRow.recurses == Try.prog.recurses 4)) = true := by kernel_rfl
theorem fact13 : ((Rows.fnExactRecUnpackRow.named == Try.prog.varsNamed 4)) = true := by kernel_rfl
theorem fact14 : ((Rows.fnExactRecUnpackRow.maps == (Try.f4.params.toList ++ Rows.fnExactRecUnpackSpec.plain.varTypes Try.prog).any (Program.mapsRec Try.prog ·))) = true := by kernel_rfl
theorem fact15 : ((Rows.fnExactRecUnpackRow.ifaces == (Try.f4.params.toList ++ Rows.fnExactRecUnpackSpec.plain.varTypes Try.prog).any (Program.ifacesRec Try.prog ·))) = true := by kernel_rfl
theorem fact16 : ((Rows.fnExactRecUnpackRow.mapsOut == Try.prog.mapsAmong Try.f4.resultTypes.toList)) = true := by kernel_rfl
theorem fact17 : ((Rows.fnExactRecUnpackRow.loops == (Try.f4.params.toList ++ Rows.fnExactRecUnpackSpec.plain.varTypes Try.prog).any (Program.loopsFrom Try.prog ·))) = true := by kernel_rfl
theorem fact18 : ((Rows.fnExactRecUnpackRow.wideKeys == (Try.f4.params.toList ++ Rows.fnExactRecUnpackSpec.plain.varTypes Try.prog ++ Try.f4.resultTypes.toList).any (Program.wideKeysFrom Try.prog ·))) = true := by kernel_rfl
theorem fact19 : (Rows.fnExactRecUnpackSpec.vars.all (Program.varReadable Try.prog ·)) = true := by kernel_rfl
theorem fact20 : (Try.f4.resultTypes.all (fun t => Try.prog.readableRec t && decide (t < Try.prog.types.size))) = true := by kernel_rfl
theorem fact21 : ((Rows.fnExactRecUnpackRow.ifacesOut == Try.f4.resultTypes.toList.any (Program.ifacesRec Try.prog ·))) = true := by kernel_rfl
theorem fact22 : ((Rows.fnExactRecUnpackRow.loopsOut == Try.f4.resultTypes.toList.any (Program.loopsFrom Try.prog ·))) = true := by kernel_rfl
theorem fact23 : ((Rows.fnExactRecUnpackRow.plainKeys == Try.prog.plainKeys)) = true := by kernel_rfl
theorem fact24 : (Rows.fnExactRecUnpackRow.shortTexts.isNone) = true := by kernel_rfl
theorem fact25 : (Try.prog.stopsHeard) = true := by kernel_rfl
theorem fact26 : (Try.prog.mayEnter) = true := by kernel_rfl
theorem fact27 : ((Rows.fnExactRecUnpackRow.lifted == Try.prog.liftsFinal)) = true := by kernel_rfl
theorem fact28 : ((Try.prog.make == some Rows.fnExactRecUnpackRow.make)) = true := by kernel_rfl
theorem fact29 : ((Rows.fnExactRecUnpackRow.kinds == (if Rows.fnExactRecUnpackRow.domain.isEmpty then [] else Try.f4.params.toList.map fun t => match Try.prog.underlying t with | some (.int k) => some k | _ => none))) = true := by kernel_rfl
theorem fact30 : ((Rows.fnExactRecUnpackRow.pinned == Rows.fnExactRecUnpackRow.pinnedBy)) = true := by kernel_rfl
theorem fact31 : ((Rows.fnExactRecUnpackRow.veiled == (Try.f4.params.toList ++ Rows.fnExactRecUnpackSpec.plain.varTypes Try.prog ++ Try.f4.resultTypes.toList).any (Program.veiledRec Try.prog ·))) = true := by kernel_rfl
theorem fact32 : (Rows.fnExactRecUnpackRow.veiledFits Try.prog Try.f4.params.toList (Try.f4.params.toList ++ Rows.fnExactRecUnpackSpec.plain.varTypes Try.prog ++ Try.f4.resultTypes.toList)) = true := by kernel_rfl
end Go.Proofs.Ytbjblchhenmgjaa.fnExactRecUnpack
