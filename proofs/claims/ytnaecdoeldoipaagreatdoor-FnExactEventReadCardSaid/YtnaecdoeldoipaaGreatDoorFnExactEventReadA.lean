/-
  What the program forces at FnExactEventRead: closed facts, each by the kernel.
-/
import Derived.Test.YtnaecdoeldoipaaGreatDoorRows
import Derived.Test.YtnaecdoeldoipaaGreatDoorStr
import Derived.JoinedOf
set_option linter.unusedVariables false
namespace Go.Proofs.YtnaecdoeldoipaaGreatDoor.fnExactEventRead
open Go.ChangeShapes Go.WideShapes Go.ChangeAt Go.RowKit

theorem fact1 : (Rows.fnExactEventReadRow.wf (OpenSpec.ofChange Rows.fnExactEventReadSpec)) = true := by kernel_rfl
theorem fact2 : (laidOutB Tryz.prog) = true := by kernel_rfl
theorem fact3 : (mapsRowed Tryz.prog) = true := by kernel_rfl
theorem fact4 : (Tryz.f6.params.all (Program.readableRec Tryz.prog ·)) = true := by kernel_rfl
theorem fact5 : (namedTie Tryz.prog Rows.fnExactEventReadRow.named Rows.fnExactEventReadSpec.vars) = true := by kernel_rfl
theorem fact6 : ((Rows.fnExactEventReadRow.stops == [])) = true := by kernel_rfl
theorem fact7 : ((Tryz.prog.stops == [])) = true := by kernel_rfl
theorem fact8 : ((Rows.fnExactEventReadRow.knobs == [])) = true := by kernel_rfl
theorem fact9 : ((Tryz.prog.stopKnobs == [])) = true := by kernel_rfl
theorem fact10 : ((Rows.fnExactEventReadRow.inPlace == Tryz.prog.inPlace 6)) = true := by kernel_rfl
theorem fact11 : ((Rows.fnExactEventReadRow.unfollowed == Tryz.prog.unfollowed 6)) = true := by kernel_rfl
theorem fact12 : ((Rows.fnExactEventReadRow.recurses == Tryz.prog.recurses 6)) = true := by kernel_rfl
theorem fact13 : ((Rows.fnExactEventReadRow.named == Tryz.prog.varsNamed 6)) = true := by kernel_rfl
theorem fact14 : ((Rows.fnExactEventReadRow.maps == (Tryz.f6.params.toList ++ Rows.fnExactEventReadSpec.plain.varTypes Tryz.prog).any (Program.mapsRec Tryz.prog ·))) = true := by kernel_rfl
theorem fact15 : ((Rows.fnExactEventReadRow.ifaces == (Tryz.f6.params.toList ++ Rows.fnExactEventReadSpec.plain.varTypes Tryz.prog).any (Program.ifacesRec Tryz.prog ·))) = true := by kernel_rfl
theorem fact16 : ((Rows.fnExactEventReadRow.mapsOut == Tryz.prog.mapsAmong Tryz.f6.resultTypes.toList)) = true := by kernel_rfl
theorem fact17 : ((Rows.fnExactEventReadRow.loops == (Tryz.f6.params.toList ++ Rows.fnExactEventReadSpec.plain.varTypes Tryz.prog).any (Program.loopsFrom Tryz.prog ·))) = true := by kernel_rfl
theorem fact18 : ((Rows.fnExactEventReadRow.wideKeys == (Tryz.f6.params.toList ++ Rows.fnExactEventReadSpec.plain.varTypes Tryz.prog ++ Tryz.f6.resultTypes.toList).any (Program.wideKeysFrom Tryz.prog ·))) = true := by kernel_rfl
theorem fact19 : (Rows.fnExactEventReadSpec.vars.all (Program.varReadable Tryz.prog ·)) = true := by kernel_rfl
theorem fact20 : (Tryz.f6.resultTypes.all (fun t => Tryz.prog.readableRec t && decide (t < Tryz.prog.types.size))) = true := by kernel_rfl
theorem fact21 : ((Rows.fnExactEventReadRow.ifacesOut == Tryz.f6.resultTypes.toList.any (Program.ifacesRec Tryz.prog ·))) = true := by kernel_rfl
theorem fact22 : ((Rows.fnExactEventReadRow.loopsOut == Tryz.f6.resultTypes.toList.any (Program.loopsFrom Tryz.prog ·))) = true := by kernel_rfl
theorem fact23 : ((Rows.fnExactEventReadRow.plainKeys == Tryz.prog.plainKeys)) = true := by kernel_rfl
theorem fact24 : (Rows.fnExactEventReadRow.shortTexts.isNone) = true := by kernel_rfl
theorem fact25 : (Tryz.prog.stopsHeard) = true := by kernel_rfl
theorem fact26 : (Tryz.prog.mayEnter) = true := by kernel_rfl
theorem fact27 : ((Rows.fnExactEventReadRow.lifted == Tryz.prog.liftsFinal)) = true := by kernel_rfl
theorem fact28 : ((Tryz.prog.make == some Rows.fnExactEventReadRow.make)) = true := by kernel_rfl
theorem fact29 : ((Rows.fnExactEventReadRow.kinds == (if Rows.fnExactEventReadRow.domain.isEmpty then [] else Tryz.f6.params.toList.map fun t => match Tryz.prog.underlying t with | some (.int k) => some k | _ => none))) = true := by kernel_rfl
theorem fact30 : ((Rows.fnExactEventReadRow.pinned == Rows.fnExactEventReadRow.pinnedBy)) = true := by kernel_rfl
theorem fact31 : ((Rows.fnExactEventReadRow.veiled == (Tryz.f6.params.toList ++ Rows.fnExactEventReadSpec.plain.varTypes Tryz.prog ++ Tryz.f6.resultTypes.toList).any (Program.veiledRec Tryz.prog ·))) = true := by kernel_rfl
theorem fact32 : (Rows.fnExactEventReadRow.veiledFits Tryz.prog Tryz.f6.params.toList (Tryz.f6.params.toList ++ Rows.fnExactEventReadSpec.plain.varTypes Tryz.prog ++ Tryz.f6.resultTypes.toList)) = true := by kernel_rfl
end Go.Proofs.YtnaecdoeldoipaaGreatDoor.fnExactEventRead
