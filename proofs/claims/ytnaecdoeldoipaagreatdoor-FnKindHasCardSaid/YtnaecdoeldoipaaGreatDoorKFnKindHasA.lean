/-
  What the program forces at FnKindHas: closed facts, each by the kernel.
-/
import Derived.Test.YtnaecdoeldoipaaGreatDoorRows
import Derived.JoinedOf
import Derived.Test.YtnaecdoeldoipaaGreatDoorKDTree
set_option linter.unusedVariables false
namespace Go.Proofs.YtnaecdoeldoipaaGreatDoor.fnKindHas
open Go.ChangeShapes Go.WideShapes Go.ChangeAt Go.RowKit

theorem fact1 : (Rows.fnKindHasRow.wf (OpenSpec.ofChange Rows.fnKindHasSpec)) = true := by kernel_rfl
theorem fact2 : (laidOutB Tryz.prog) = true := by kernel_rfl
theorem fact3 : (mapsRowed Tryz.prog) = true := by kernel_rfl
theorem fact4 : (Tryz.f5.params.all (Program.readableRec Tryz.prog ·)) = true := by kernel_rfl
theorem fact5 : (namedTie Tryz.prog Rows.fnKindHasRow.named Rows.fnKindHasSpec.vars) = true := by kernel_rfl
theorem fact6 : ((Rows.fnKindHasRow.stops == [])) = true := by kernel_rfl
theorem fact7 : ((Tryz.prog.stops == [])) = true := by kernel_rfl
theorem fact8 : ((Rows.fnKindHasRow.knobs == [])) = true := by kernel_rfl
theorem fact9 : ((Tryz.prog.stopKnobs == [])) = true := by kernel_rfl
theorem fact10 : ((Rows.fnKindHasRow.inPlace == Tryz.prog.inPlace 5)) = true := by kernel_rfl
theorem fact11 : ((Rows.fnKindHasRow.unfollowed == Tryz.prog.unfollowed 5)) = true := by kernel_rfl
theorem fact12 : ((Rows.fnKindHasRow.recurses == Tryz.prog.recurses 5)) = true := by kernel_rfl
theorem fact13 : ((Rows.fnKindHasRow.named == Tryz.prog.varsNamed 5)) = true := by kernel_rfl
theorem fact14 : ((Rows.fnKindHasRow.maps == (Tryz.f5.params.toList ++ Rows.fnKindHasSpec.plain.varTypes Tryz.prog).any (Program.mapsRec Tryz.prog ·))) = true := by kernel_rfl
theorem fact15 : ((Rows.fnKindHasRow.ifaces == (Tryz.f5.params.toList ++ Rows.fnKindHasSpec.plain.varTypes Tryz.prog).any (Program.ifacesRec Tryz.prog ·))) = true := by kernel_rfl
theorem fact16 : ((Rows.fnKindHasRow.mapsOut == Tryz.prog.mapsAmong Tryz.f5.resultTypes.toList)) = true := by kernel_rfl
theorem fact17 : ((Rows.fnKindHasRow.loops == (Tryz.f5.params.toList ++ Rows.fnKindHasSpec.plain.varTypes Tryz.prog).any (Program.loopsFrom Tryz.prog ·))) = true := by kernel_rfl
theorem fact18 : ((Rows.fnKindHasRow.wideKeys == (Tryz.f5.params.toList ++ Rows.fnKindHasSpec.plain.varTypes Tryz.prog ++ Tryz.f5.resultTypes.toList).any (Program.wideKeysFrom Tryz.prog ·))) = true := by kernel_rfl
theorem fact19 : (Rows.fnKindHasSpec.vars.all (Program.varReadable Tryz.prog ·)) = true := by kernel_rfl
theorem fact20 : (Tryz.f5.resultTypes.all (fun t => Tryz.prog.readableRec t && decide (t < Tryz.prog.types.size))) = true := by kernel_rfl
theorem fact21 : ((Rows.fnKindHasRow.ifacesOut == Tryz.f5.resultTypes.toList.any (Program.ifacesRec Tryz.prog ·))) = true := by kernel_rfl
theorem fact22 : ((Rows.fnKindHasRow.loopsOut == Tryz.f5.resultTypes.toList.any (Program.loopsFrom Tryz.prog ·))) = true := by kernel_rfl
theorem fact23 : ((Rows.fnKindHasRow.plainKeys == Tryz.prog.plainKeys)) = true := by kernel_rfl
theorem fact24 : (Rows.fnKindHasRow.shortTexts.isNone) = true := by kernel_rfl
theorem fact25 : (Tryz.prog.stopsHeard) = true := by kernel_rfl
theorem fact26 : (Tryz.prog.mayEnter) = true := by kernel_rfl
theorem fact27 : ((Rows.fnKindHasRow.lifted == Tryz.prog.liftsFinal)) = true := by kernel_rfl
theorem fact28 : ((Tryz.prog.make == some Rows.fnKindHasRow.make)) = true := by kernel_rfl
theorem fact29 : ((Rows.fnKindHasRow.kinds == (if Rows.fnKindHasRow.domain.isEmpty then [] else Tryz.f5.params.toList.map fun t => match Tryz.prog.underlying t with | some (.int k) => some k | _ => none))) = true := by kernel_rfl
theorem fact30 : ((Rows.fnKindHasRow.pinned == Rows.fnKindHasRow.pinnedBy)) = true := by kernel_rfl
theorem fact31 : ((Rows.fnKindHasRow.veiled == (Tryz.f5.params.toList ++ Rows.fnKindHasSpec.plain.varTypes Tryz.prog ++ Tryz.f5.resultTypes.toList).any (Program.veiledRec Tryz.prog ·))) = true := by kernel_rfl
theorem fact32 : (Rows.fnKindHasRow.veiledFits Tryz.prog Tryz.f5.params.toList (Tryz.f5.params.toList ++ Rows.fnKindHasSpec.plain.varTypes Tryz.prog ++ Tryz.f5.resultTypes.toList)) = true := by kernel_rfl
end Go.Proofs.YtnaecdoeldoipaaGreatDoor.fnKindHas
